/- The document: is a park valid? -/
import Derived.Test.YtfebhofihioaoaaS3
namespace Go.Proofs.Ytfebhofihioaoaa
set_option linter.unusedVariables false
set_option linter.unusedSimpArgs false
open Go Go.RowKit

set_option maxRecDepth 100000 in
set_option maxHeartbeats 8000000 in
theorem park17 (x : Prk) (A : Option Addr) (c : Nat) (w : World) (hA : Fours w w.heap.size A x.sp) (hxl : x.sp.length ≤ 9223372036854775807) :
    Calls Try.prog 17 #[x.val A c] w fun e w' => e = .returned (.bool (prkB x)) ∧ Below w.heap.size w w' := by
  have HA := Lib.hid hA
  have HN6 : Hid (6 < x.sp.length → prkB x = false) := Lib.hid fun h => bool_false fun hb => by
    have h1 : x.sp.length ≤ 6 := (prk_iff.1 (prkB_iff.1 hb)).1
    omega
  have HNA : Hid (spB x.alo x.ahi 6291456 = false → prkB x = false) := Lib.hid fun h => bool_false fun hb => by
    have := (prk_iff.1 (prkB_iff.1 hb)).2.1
    rw [h] at this; cases this
  have HNS : Hid (∀ k, k < x.sp.length → ¬ SpotOk x k → prkB x = false) := Lib.hid fun k hk h => bool_false fun hb => h ((prk_iff.1 (prkB_iff.1 hb)).2.2.1 k hk)
  have HYY : Hid (x.sp.length ≤ 6 → spB x.alo x.ahi 6291456 = true → (∀ k, k < x.sp.length → SpotOk x k) → prkB x = (decide (sumN x.lo x.sp.length ≤ x.ahi) && decide (x.alo ≤ sumN x.hi x.sp.length))) := Lib.hid fun h1 h2 h3 => by
    rw [Bool.eq_iff_iff, prkB_iff, prk_iff, Bool.and_eq_true, decide_eq_true_eq, decide_eq_true_eq]
    exact ⟨fun h => h.2.2.2, fun h => ⟨h1, h2, h3, h.1, h.2⟩⟩
  have HLO : Hid (∀ k (h : k < x.sp.length), x.sp[k].1 = x.lo k ∧ x.sp[k].2.1 = x.hi k ∧ x.sp[k].2.2.1 = x.ho k ∧ x.sp[k].2.2.2 = x.ne k) := Lib.hid fun k h => by simp [Prk.lo, Prk.hi, Prk.ho, Prk.ne, List.getD, h]
  obtain ⟨pb, hpb⟩ : ∃ pb, prkB x = pb := ⟨_, rfl⟩
  rw [hpb] at HN6 HNA HNS HYY ⊢
  clear hpb hA
  obtain ⟨al, hal⟩ : ∃ al, al = x.alo := ⟨_, rfl⟩
  obtain ⟨ah, hah⟩ : ∃ ah, ah = x.ahi := ⟨_, rfl⟩
  simp only [Prk.val]
  rw [← hal, ← hah] at HNA HYY ⊢
  clear hal hah
  have HS46 : Hid (∀ W, Calls Try.prog 41 #[.agg #[I al, I ah], I 6291456] W fun e w' => e = .returned (.bool (spB al ah 6291456)) ∧ Below W.heap.size W w') := Lib.hid fun W => span41 al ah 6291456 W
  have hBz : Below w.heap.size w (w.alloc (.cells #[.slice A x.sp.length c, I al, I ah] 26)) := below1 _ _
  by_cases h6 : 6 < x.sp.length
  · have HF := Lib.hid (HN6.out h6)
    have e1 : decide ((6 : Int) < (x.sp.length : Int)) = true := decide_eq_true (by omega)
    have e2 : decide (6 < x.sp.length) = true := decide_eq_true h6
    clear h6
    go_enter Try.func17, Try.ntmps17
    go_wp2
    go_ret
    exact ⟨ret_b HF.out.symm, hBz⟩
  · have e1 : decide ((6 : Int) < (x.sp.length : Int)) = false := decide_eq_false (by omega)
    have e2 : decide (6 < x.sp.length) = false := decide_eq_false h6
    cases ha : spB al ah 6291456
    · have HF := Lib.hid (HNA.out ha)
      rw [ha] at HS46
      clear ha h6
      go_enter Try.func17, Try.ntmps17
      go_wp2_with (first
        | (go_at_call 41; refine (HS46.out _).mono ?_; rintro e w1 ⟨rfl, hB1⟩)
        | fail)
      go_ret
      exact ⟨ret_b HF.out.symm, below_call hBz hB1⟩
    · have HYA := Lib.hid (HYY.out (by omega) ha)
      have HAH := Lib.hid (spB_true.1 ha)
      rw [ha] at HS46
      clear ha HYY
      have hn6 : x.sp.length ≤ 6 := by omega
      obtain ⟨N, hN⟩ : ∃ N, N = (2 : Int) ^ x.sp.length := ⟨_, rfl⟩
      have hNb := pow_n hn6
      have hwN : wrap64 ((2 : Int) ^ x.sp.length) = N := by rw [← hN]; exact IntWalk.wrap64_in _ ⟨by omega, by omega⟩
      rw [← hN] at hNb
      have HN2 : Hid (∀ k, SpotOk x k ↔ spB (x.lo k) (x.hi k) 1048576 = true ∧ inB (x.ho k) 1 1048576 = true ∧ inB (x.ne k) 0 (N - 1) = true) := Lib.hid fun k => by
        rw [hN]; exact ⟨fun h => ⟨h.a, h.b, h.c⟩, fun h => ⟨h.1, h.2.1, h.2.2⟩⟩
      have HWN := Lib.hid hwN
      have HWM : Hid (IntKind.i64.wrap (N - 1) = N - 1) := Lib.hid (IntWalk.i64_in _ (by omega))
      have HWS : Hid (IntKind.i64.wrap ((2 : Int) ^ x.sp.length) = N) := Lib.hid (by rw [← hN]; exact IntWalk.i64_in _ (by omega))
      have HNN : Hid (N = (2 : Int) ^ x.sp.length) := Lib.hid hN
      clear hN hwN h6
      go_enter Try.func17, Try.ntmps17
      go_wp2_with (first
        | (go_at_call 41; refine (HS46.out _).mono ?_; rintro e w1 ⟨rfl, hB1⟩; have hBw1 := below_call hBz hB1; have hc1 := (hB1.cell (p := ⟨w.heap.size, 0, none⟩) (by simp)).trans (show (w.alloc (.cells #[.slice A x.sp.length c, I al, I ah] 26)).cell? ⟨w.heap.size, 0, none⟩ = some (.slice A x.sp.length c) by simp [go_sem]); have hc2 := (hB1.cell (p := ⟨w.heap.size, 1, none⟩) (by simp)).trans (show (w.alloc (.cells #[.slice A x.sp.length c, I al, I ah] 26)).cell? ⟨w.heap.size, 1, none⟩ = some (I al) by simp [go_sem]); have hc3 := (hB1.cell (p := ⟨w.heap.size, 2, none⟩) (by simp)).trans (show (w.alloc (.cells #[.slice A x.sp.length c, I al, I ah] 26)).cell? ⟨w.heap.size, 2, none⟩ = some (I ah) by simp [go_sem]); have hz1 : w.heap.size < w1.heap.size := (by have := hB1.size; simp at this; omega))
        | fail)
      obtain ⟨P, hP⟩ : ∃ P, P = w.heap.size := ⟨_, rfl⟩
      have HCP : Hid (∀ W, Below w1.heap.size w1 W → W.cell? ⟨P, 0, none⟩ = some (.slice A x.sp.length c) ∧ W.cell? ⟨P, 1, none⟩ = some (I al) ∧ W.cell? ⟨P, 2, none⟩ = some (I ah)) := Lib.hid fun W hW => by
        rw [hP]
        exact ⟨(hW.cell (p := ⟨_, _, none⟩) hz1).trans hc1, (hW.cell (p := ⟨_, _, none⟩) hz1).trans hc2, (hW.cell (p := ⟨_, _, none⟩) hz1).trans hc3⟩
      have HP1 : Hid (P < w1.heap.size) := Lib.hid (by omega)
      rw [← hP]
      have HPW := Lib.hid hP
      clear hP hc1 hc2 hc3
      go_loopw [3, 4, 5] (fun s3 s4 s5 wr => ∃ k : Nat, k ≤ x.sp.length ∧ s5 = I k ∧ s3 = I (sumN x.lo k) ∧ s4 = I (sumN x.hi k) ∧ Below w1.heap.size w1 wr ∧ Hid (∀ j, j < k → SpotOk x j)) (fun _ _ s _ => x.sp.length - (intOf s).toNat)
      case atStart => exact ⟨0, Nat.zero_le _, rfl, rfl, rfl, Below.refl _ _, Lib.hid fun j h => by omega⟩
      case round =>
        obtain ⟨k, hk, rfl, rfl, rfl, hB, HOK⟩ := hrel
        have hwz := hB.size
        have hBw := hBw1.trans (hB.mono hBw1.size)
        have hsk := spot_sum (by omega) HOK.out
        by_cases hlt : k < x.sp.length
        · obtain ⟨ab, ao, hAe, haz, hac⟩ := (HA.out.below hBw) (by omega)
          subst hAe
          obtain ⟨a0, a1, a2, a3⟩ := hac k hlt
          obtain ⟨e0, e1', e2', e3'⟩ := HLO.out k hlt
          rw [e0] at a0
          rw [e1'] at a1
          rw [e2'] at a2
          rw [e3'] at a3
          have HNK := Lib.hid (HNS.out k hlt)
          have HIF := Lib.hid (HN2.out k)
          have HSS : Hid (sumN x.lo (k + 1) = sumN x.lo k + x.lo k ∧ sumN x.hi (k + 1) = sumN x.hi k + x.hi k) := Lib.hid ⟨rfl, rfl⟩
          have HOS : Hid (SpotOk x k → ∀ j, j < k + 1 → SpotOk x j) := Lib.hid fun h j hj => by
            rcases Nat.lt_succ_iff_lt_or_eq.1 hj with h1 | rfl
            · exact HOK.out j h1
            · exact h
          generalize sumN x.lo k = sl at *
          generalize sumN x.hi k = sh at *
          generalize x.lo k = lo at *
          generalize x.hi k = hi at *
          generalize x.ho k = ho at *
          generalize x.ne k = ne at *
          have HLH : Hid (spB lo hi 1048576 = true → 0 ≤ lo ∧ lo ≤ hi ∧ hi ≤ 1048576) := Lib.hid fun h => spB_true.1 h
          have p0 : (0 : Int) ≤ (k : Int) := by omega
          have p1 : (k : Int) < (x.sp.length : Int) := by omega
          have HC1 : Hid (∀ W, Calls Try.prog 41 #[.agg #[I lo, I hi], I 1048576] W fun e w' => e = .returned (.bool (spB lo hi 1048576)) ∧ Below W.heap.size W w') := Lib.hid fun W => span41 lo hi 1048576 W
          have HC2 : Hid (∀ W, Calls Try.prog 32 #[I ho, I 1, I 1048576] W fun e w' => e = .returned (.bool (inB ho 1 1048576)) ∧ W = w') := Lib.hid fun W => in32 _ _ _ W
          have HC4 : Hid (∀ W, Calls Try.prog 33 #[.agg #[.slice (some ⟨ab, ao, none⟩) x.sp.length c, I al, I ah]] W fun e w' => e = .returned (I N) ∧ Below W.heap.size W w') := Lib.hid fun W => by
            have := sets33 ⟨x.sp, al, ah⟩ (some ⟨ab, ao, none⟩) c W (by show x.sp.length ≤ 20; omega)
            rwa [← HNN.out] at this
          have HC3 : Hid (∀ W, Calls Try.prog 32 #[I ne, I 0, I (N - 1)] W fun e w' => e = .returned (.bool (inB ne 0 (N - 1))) ∧ W = w') := Lib.hid fun W => in32 _ _ _ W
          obtain ⟨b1, hb1⟩ : ∃ b, spB lo hi 1048576 = b := ⟨_, rfl⟩
          obtain ⟨b2, hb2⟩ : ∃ b, inB ho 1 1048576 = b := ⟨_, rfl⟩
          obtain ⟨b3, hb3⟩ : ∃ b, inB ne 0 (N - 1) = b := ⟨_, rfl⟩
          rw [hb1] at HC1 HIF HLH
          rw [hb2] at HC2 HIF
          rw [hb3] at HC3 HIF
          have HBa : Hid (Below wr.heap.size wr (wr.alloc (.cells #[I lo, I hi, I ho, I ne] 48))) := Lib.hid (below1 _ _)
          have HXa : Hid (Box (wr.alloc (.cells #[I lo, I hi, I ho, I ne] 48)) wr.heap.size [I lo, I hi, I ho, I ne]) := Lib.hid (Box.new wr [I lo, I hi, I ho, I ne] 48)
          clear hac e0 e1' e2' e3' hb1 hb2 hb3
          obtain ⟨q0, q1, q2⟩ := HCP.out _ hB
          go_wp2_with (fail)
          clear a0 a1 a2 a3 q0 q1 q2
          obtain ⟨T5, hT5⟩ : ∃ T5, T5 = wr.heap.size := ⟨_, rfl⟩
          rw [← hT5] at HXa HBa ⊢
          have hT5z : T5 < (wr.alloc (.cells #[I lo, I hi, I ho, I ne] 48)).heap.size := HXa.out.1
          have hBa2 : Below w1.heap.size w1 (wr.alloc (.cells #[I lo, I hi, I ho, I ne] 48)) := hB.alloc hwz _
          clear hT5
          generalize wr.alloc (.cells #[I lo, I hi, I ho, I ne] 48) = wb at *
          have HCX : Hid (∀ W, Below wb.heap.size wb W → W.cell? ⟨T5, 0, none⟩ = some (I lo) ∧ W.cell? ⟨T5, 1, none⟩ = some (I hi) ∧ W.cell? ⟨T5, 2, none⟩ = some (I ho) ∧ W.cell? ⟨T5, 3, none⟩ = some (I ne) ∧ W.cell? ⟨P, 0, none⟩ = some (.slice (some ⟨ab, ao, none⟩) x.sp.length c) ∧ W.cell? ⟨P, 1, none⟩ = some (I al) ∧ W.cell? ⟨P, 2, none⟩ = some (I ah)) := Lib.hid fun W hW =>
            ⟨((HXa.out.call hW).at_ 0 _ rfl).1, ((HXa.out.call hW).at_ 1 _ rfl).1, ((HXa.out.call hW).at_ 2 _ rfl).1, ((HXa.out.call hW).at_ 3 _ rfl).1, HCP.out W (hBa2.trans (hW.mono hBa2.size))⟩
          cases b1
          · refine (wpIn_wide (n := 9)).1 ?_
            refine wpIn_region_valsB [some 29, some 30, some 31, some 32, some 33, some 34, some 35, some 36, some 37, some 38, some 39, some 40, some 41, some 42, some 43, some 44, some 45, some 46, some 47]
              (nthV [.pointer (some ⟨T5, 0, none⟩), .agg #[I lo, I hi], .bool false, .bool true, .bool true, undef, undef, undef, undef, .bool true, .bool true, undef, undef, undef, undef, undef, undef, undef, .bool true])
              [(1, .pointer (some ⟨P, 0, none⟩)), (6, .pointer (some ⟨T5, 0, none⟩))]
              (fun W => Below wb.heap.size wb W) rfl (by kernel_rfl) (fun _ => trivial) (by kernel_rfl) (by kernel_rfl) (by kernel_rfl) ⟨rfl, rfl, trivial⟩ (fun _ d _ _ _ h => by cases d <;> exact h) (Below.refl _ _).drew ?_ ?_
            · refine ⟨?_, ?_, ?_, ?_, ?_, ?_, ?_, ?_, ?_, ?_, ?_, ?_, ?_, ?_, ?_, ?_, ?_, ?_, ?_, trivial⟩
              all_goals (intro x0 W hC; obtain ⟨n0, n1, n2, n3, n4, n5, n6⟩ := HCX.out _ hC; have hwM := HWM.out)
              all_goals first
                | (refine e_no rfl ?_; rfl)
                | (refine e_yes rfl ?_; intro b e hb K hK)
              all_goals first
                | (refine opE_li rfl hb ?_; simp only [execOp, resolve, Oper.about, envB, lookB, lookV, nthV, List.map_toArray, List.map_cons, List.map_nil, Nat.reduceEqDiff, reduceIte, Nat.succ_ne_zero, Nat.zero_ne_one, Nat.one_ne_zero, Nat.reduceAdd, Nat.zero_add]; go_simp; exact hK _ hC)
                | (refine opE_call rfl hb (fun _ => trivial) (fun h => (by cases h)) 41 #[.agg #[I lo, I hi], I 1048576] ?_ ?_
                   · (simp only [execOp, resolve, Oper.about, envB, lookB, lookV, nthV, List.map_toArray, List.map_cons, List.map_nil, Nat.reduceEqDiff, reduceIte, Nat.succ_ne_zero, Nat.zero_ne_one, Nat.one_ne_zero, Nat.reduceAdd, Nat.zero_add])
                     go_simp
                   · refine callsIn_wide.2 ((HC1.out _).mono ?_)
                     rintro e w6 ⟨rfl, hB6⟩
                     exact ⟨_, rfl, hK _ (hC.trans (hB6.mono hC.size))⟩)
                | (refine opE_call rfl hb (fun _ => trivial) (fun h => (by cases h)) 32 #[I ho, I 1, I 1048576] ?_ ?_
                   · (simp only [execOp, resolve, Oper.about, envB, lookB, lookV, nthV, List.map_toArray, List.map_cons, List.map_nil, Nat.reduceEqDiff, reduceIte, Nat.succ_ne_zero, Nat.zero_ne_one, Nat.one_ne_zero, Nat.reduceAdd, Nat.zero_add])
                     go_simp
                   · refine callsIn_wide.2 ((HC2.out _).mono ?_)
                     rintro e w6 ⟨rfl, rfl⟩
                     exact ⟨_, rfl, hK _ hC⟩)
                | (refine opE_call rfl hb (fun _ => trivial) (fun h => (by cases h)) 33 #[.agg #[.slice (some ⟨ab, ao, none⟩) x.sp.length c, I al, I ah]] ?_ ?_
                   · (simp only [execOp, resolve, Oper.about, envB, lookB, lookV, nthV, List.map_toArray, List.map_cons, List.map_nil, Nat.reduceEqDiff, reduceIte, Nat.succ_ne_zero, Nat.zero_ne_one, Nat.one_ne_zero, Nat.reduceAdd, Nat.zero_add])
                     go_simp
                   · refine callsIn_wide.2 ((HC4.out _).mono ?_)
                     rintro e w6 ⟨rfl, hB6⟩
                     exact ⟨_, rfl, hK _ (hC.trans (hB6.mono hC.size))⟩)
                | (refine opE_call rfl hb (fun _ => trivial) (fun h => (by cases h)) 32 #[I ne, I 0, I (N - 1)] ?_ ?_
                   · (simp only [execOp, resolve, Oper.about, envB, lookB, lookV, nthV, List.map_toArray, List.map_cons, List.map_nil, Nat.reduceEqDiff, reduceIte, Nat.succ_ne_zero, Nat.zero_ne_one, Nat.one_ne_zero, Nat.reduceAdd, Nat.zero_add])
                     go_simp
                   · refine callsIn_wide.2 ((HC3.out _).mono ?_)
                     rintro e w6 ⟨rfl, rfl⟩
                     exact ⟨_, rfl, hK _ hC⟩)
            · (intro W hC; have HC := Lib.hid hC; clear hC; simp only [putD, nthV, Act.put, List.setIfInBounds_toArray, List.set_cons_succ, List.set_cons_zero, Nat.zero_add, Nat.reduceAdd])
              have hCo := HC.out
              clear HC
              have HF : Hid (pb = false) := Lib.hid (HNK.out fun h => by have := HIF.out.1 h; simp at this)
              go_wp2
              go_ret
              exact ⟨ret_b HF.out.symm, hBw1.trans ((hBa2.trans (hCo.mono hBa2.size)).mono hBw1.size)⟩
          · cases b2
            · refine (wpIn_wide (n := 9)).1 ?_
              refine wpIn_region_valsB [some 29, some 30, some 31, some 32, some 33, some 34, some 35, some 36, some 37, some 38, some 39, some 40, some 41, some 42, some 43, some 44, some 45, some 46, some 47]
                (nthV [.pointer (some ⟨T5, 0, none⟩), .agg #[I lo, I hi], .bool true, .bool false, .bool false, .pointer (some ⟨T5, 2, none⟩), I ho, .bool false, .bool true, .bool true, .bool true, undef, undef, undef, undef, undef, undef, undef, .bool true])
                [(1, .pointer (some ⟨P, 0, none⟩)), (6, .pointer (some ⟨T5, 0, none⟩))]
                (fun W => Below wb.heap.size wb W) rfl (by kernel_rfl) (fun _ => trivial) (by kernel_rfl) (by kernel_rfl) (by kernel_rfl) ⟨rfl, rfl, trivial⟩ (fun _ d _ _ _ h => by cases d <;> exact h) (Below.refl _ _).drew ?_ ?_
              · refine ⟨?_, ?_, ?_, ?_, ?_, ?_, ?_, ?_, ?_, ?_, ?_, ?_, ?_, ?_, ?_, ?_, ?_, ?_, ?_, trivial⟩
                all_goals (intro x0 W hC; obtain ⟨n0, n1, n2, n3, n4, n5, n6⟩ := HCX.out _ hC; have hwM := HWM.out)
                all_goals first
                  | (refine e_no rfl ?_; rfl)
                  | (refine e_yes rfl ?_; intro b e hb K hK)
                all_goals first
                  | (refine opE_li rfl hb ?_; simp only [execOp, resolve, Oper.about, envB, lookB, lookV, nthV, List.map_toArray, List.map_cons, List.map_nil, Nat.reduceEqDiff, reduceIte, Nat.succ_ne_zero, Nat.zero_ne_one, Nat.one_ne_zero, Nat.reduceAdd, Nat.zero_add]; go_simp; exact hK _ hC)
                  | (refine opE_call rfl hb (fun _ => trivial) (fun h => (by cases h)) 41 #[.agg #[I lo, I hi], I 1048576] ?_ ?_
                     · (simp only [execOp, resolve, Oper.about, envB, lookB, lookV, nthV, List.map_toArray, List.map_cons, List.map_nil, Nat.reduceEqDiff, reduceIte, Nat.succ_ne_zero, Nat.zero_ne_one, Nat.one_ne_zero, Nat.reduceAdd, Nat.zero_add])
                       go_simp
                     · refine callsIn_wide.2 ((HC1.out _).mono ?_)
                       rintro e w6 ⟨rfl, hB6⟩
                       exact ⟨_, rfl, hK _ (hC.trans (hB6.mono hC.size))⟩)
                  | (refine opE_call rfl hb (fun _ => trivial) (fun h => (by cases h)) 32 #[I ho, I 1, I 1048576] ?_ ?_
                     · (simp only [execOp, resolve, Oper.about, envB, lookB, lookV, nthV, List.map_toArray, List.map_cons, List.map_nil, Nat.reduceEqDiff, reduceIte, Nat.succ_ne_zero, Nat.zero_ne_one, Nat.one_ne_zero, Nat.reduceAdd, Nat.zero_add])
                       go_simp
                     · refine callsIn_wide.2 ((HC2.out _).mono ?_)
                       rintro e w6 ⟨rfl, rfl⟩
                       exact ⟨_, rfl, hK _ hC⟩)
                  | (refine opE_call rfl hb (fun _ => trivial) (fun h => (by cases h)) 33 #[.agg #[.slice (some ⟨ab, ao, none⟩) x.sp.length c, I al, I ah]] ?_ ?_
                     · (simp only [execOp, resolve, Oper.about, envB, lookB, lookV, nthV, List.map_toArray, List.map_cons, List.map_nil, Nat.reduceEqDiff, reduceIte, Nat.succ_ne_zero, Nat.zero_ne_one, Nat.one_ne_zero, Nat.reduceAdd, Nat.zero_add])
                       go_simp
                     · refine callsIn_wide.2 ((HC4.out _).mono ?_)
                       rintro e w6 ⟨rfl, hB6⟩
                       exact ⟨_, rfl, hK _ (hC.trans (hB6.mono hC.size))⟩)
                  | (refine opE_call rfl hb (fun _ => trivial) (fun h => (by cases h)) 32 #[I ne, I 0, I (N - 1)] ?_ ?_
                     · (simp only [execOp, resolve, Oper.about, envB, lookB, lookV, nthV, List.map_toArray, List.map_cons, List.map_nil, Nat.reduceEqDiff, reduceIte, Nat.succ_ne_zero, Nat.zero_ne_one, Nat.one_ne_zero, Nat.reduceAdd, Nat.zero_add])
                       go_simp
                     · refine callsIn_wide.2 ((HC3.out _).mono ?_)
                       rintro e w6 ⟨rfl, rfl⟩
                       exact ⟨_, rfl, hK _ hC⟩)
              · (intro W hC; have HC := Lib.hid hC; clear hC; simp only [putD, nthV, Act.put, List.setIfInBounds_toArray, List.set_cons_succ, List.set_cons_zero, Nat.zero_add, Nat.reduceAdd])
                have hCo := HC.out
                clear HC
                have HF : Hid (pb = false) := Lib.hid (HNK.out fun h => by have := HIF.out.1 h; simp at this)
                go_wp2
                go_ret
                exact ⟨ret_b HF.out.symm, hBw1.trans ((hBa2.trans (hCo.mono hBa2.size)).mono hBw1.size)⟩
            · cases b3
              · refine (wpIn_wide (n := 9)).1 ?_
                refine wpIn_region_valsB [some 29, some 30, some 31, some 32, some 33, some 34, some 35, some 36, some 37, some 38, some 39, some 40, some 41, some 42, some 43, some 44, some 45, some 46, some 47]
                  (nthV [.pointer (some ⟨T5, 0, none⟩), .agg #[I lo, I hi], .bool true, .bool false, .bool false, .pointer (some ⟨T5, 2, none⟩), I ho, .bool true, .bool false, .bool false, .bool false, .pointer (some ⟨T5, 3, none⟩), I ne, .agg #[.slice (some ⟨ab, ao, none⟩) x.sp.length c, I al, I ah], I N, I (N - 1), .bool false, .bool true, .bool true])
                  [(1, .pointer (some ⟨P, 0, none⟩)), (6, .pointer (some ⟨T5, 0, none⟩))]
                  (fun W => Below wb.heap.size wb W) rfl (by kernel_rfl) (fun _ => trivial) (by kernel_rfl) (by kernel_rfl) (by kernel_rfl) ⟨rfl, rfl, trivial⟩ (fun _ d _ _ _ h => by cases d <;> exact h) (Below.refl _ _).drew ?_ ?_
                · refine ⟨?_, ?_, ?_, ?_, ?_, ?_, ?_, ?_, ?_, ?_, ?_, ?_, ?_, ?_, ?_, ?_, ?_, ?_, ?_, trivial⟩
                  all_goals (intro x0 W hC; obtain ⟨n0, n1, n2, n3, n4, n5, n6⟩ := HCX.out _ hC; have hwM := HWM.out)
                  all_goals first
                    | (refine e_no rfl ?_; rfl)
                    | (refine e_yes rfl ?_; intro b e hb K hK)
                  all_goals first
                    | (refine opE_li rfl hb ?_; simp only [execOp, resolve, Oper.about, envB, lookB, lookV, nthV, List.map_toArray, List.map_cons, List.map_nil, Nat.reduceEqDiff, reduceIte, Nat.succ_ne_zero, Nat.zero_ne_one, Nat.one_ne_zero, Nat.reduceAdd, Nat.zero_add]; go_simp; exact hK _ hC)
                    | (refine opE_call rfl hb (fun _ => trivial) (fun h => (by cases h)) 41 #[.agg #[I lo, I hi], I 1048576] ?_ ?_
                       · (simp only [execOp, resolve, Oper.about, envB, lookB, lookV, nthV, List.map_toArray, List.map_cons, List.map_nil, Nat.reduceEqDiff, reduceIte, Nat.succ_ne_zero, Nat.zero_ne_one, Nat.one_ne_zero, Nat.reduceAdd, Nat.zero_add])
                         go_simp
                       · refine callsIn_wide.2 ((HC1.out _).mono ?_)
                         rintro e w6 ⟨rfl, hB6⟩
                         exact ⟨_, rfl, hK _ (hC.trans (hB6.mono hC.size))⟩)
                    | (refine opE_call rfl hb (fun _ => trivial) (fun h => (by cases h)) 32 #[I ho, I 1, I 1048576] ?_ ?_
                       · (simp only [execOp, resolve, Oper.about, envB, lookB, lookV, nthV, List.map_toArray, List.map_cons, List.map_nil, Nat.reduceEqDiff, reduceIte, Nat.succ_ne_zero, Nat.zero_ne_one, Nat.one_ne_zero, Nat.reduceAdd, Nat.zero_add])
                         go_simp
                       · refine callsIn_wide.2 ((HC2.out _).mono ?_)
                         rintro e w6 ⟨rfl, rfl⟩
                         exact ⟨_, rfl, hK _ hC⟩)
                    | (refine opE_call rfl hb (fun _ => trivial) (fun h => (by cases h)) 33 #[.agg #[.slice (some ⟨ab, ao, none⟩) x.sp.length c, I al, I ah]] ?_ ?_
                       · (simp only [execOp, resolve, Oper.about, envB, lookB, lookV, nthV, List.map_toArray, List.map_cons, List.map_nil, Nat.reduceEqDiff, reduceIte, Nat.succ_ne_zero, Nat.zero_ne_one, Nat.one_ne_zero, Nat.reduceAdd, Nat.zero_add])
                         go_simp
                       · refine callsIn_wide.2 ((HC4.out _).mono ?_)
                         rintro e w6 ⟨rfl, hB6⟩
                         exact ⟨_, rfl, hK _ (hC.trans (hB6.mono hC.size))⟩)
                    | (refine opE_call rfl hb (fun _ => trivial) (fun h => (by cases h)) 32 #[I ne, I 0, I (N - 1)] ?_ ?_
                       · (simp only [execOp, resolve, Oper.about, envB, lookB, lookV, nthV, List.map_toArray, List.map_cons, List.map_nil, Nat.reduceEqDiff, reduceIte, Nat.succ_ne_zero, Nat.zero_ne_one, Nat.one_ne_zero, Nat.reduceAdd, Nat.zero_add])
                         go_simp
                       · refine callsIn_wide.2 ((HC3.out _).mono ?_)
                         rintro e w6 ⟨rfl, rfl⟩
                         exact ⟨_, rfl, hK _ hC⟩)
                · (intro W hC; have HC := Lib.hid hC; clear hC; simp only [putD, nthV, Act.put, List.setIfInBounds_toArray, List.set_cons_succ, List.set_cons_zero, Nat.zero_add, Nat.reduceAdd])
                  have hCo := HC.out
                  clear HC
                  have HF : Hid (pb = false) := Lib.hid (HNK.out fun h => by have := HIF.out.1 h; simp at this)
                  go_wp2
                  go_ret
                  exact ⟨ret_b HF.out.symm, hBw1.trans ((hBa2.trans (hCo.mono hBa2.size)).mono hBw1.size)⟩
              · refine (wpIn_wide (n := 9)).1 ?_
                refine wpIn_region_valsB [some 29, some 30, some 31, some 32, some 33, some 34, some 35, some 36, some 37, some 38, some 39, some 40, some 41, some 42, some 43, some 44, some 45, some 46, some 47]
                  (nthV [.pointer (some ⟨T5, 0, none⟩), .agg #[I lo, I hi], .bool true, .bool false, .bool false, .pointer (some ⟨T5, 2, none⟩), I ho, .bool true, .bool false, .bool false, .bool false, .pointer (some ⟨T5, 3, none⟩), I ne, .agg #[.slice (some ⟨ab, ao, none⟩) x.sp.length c, I al, I ah], I N, I (N - 1), .bool true, .bool false, .bool false])
                  [(1, .pointer (some ⟨P, 0, none⟩)), (6, .pointer (some ⟨T5, 0, none⟩))]
                  (fun W => Below wb.heap.size wb W) rfl (by kernel_rfl) (fun _ => trivial) (by kernel_rfl) (by kernel_rfl) (by kernel_rfl) ⟨rfl, rfl, trivial⟩ (fun _ d _ _ _ h => by cases d <;> exact h) (Below.refl _ _).drew ?_ ?_
                · refine ⟨?_, ?_, ?_, ?_, ?_, ?_, ?_, ?_, ?_, ?_, ?_, ?_, ?_, ?_, ?_, ?_, ?_, ?_, ?_, trivial⟩
                  all_goals (intro x0 W hC; obtain ⟨n0, n1, n2, n3, n4, n5, n6⟩ := HCX.out _ hC; have hwM := HWM.out)
                  all_goals first
                    | (refine e_no rfl ?_; rfl)
                    | (refine e_yes rfl ?_; intro b e hb K hK)
                  all_goals first
                    | (refine opE_li rfl hb ?_; simp only [execOp, resolve, Oper.about, envB, lookB, lookV, nthV, List.map_toArray, List.map_cons, List.map_nil, Nat.reduceEqDiff, reduceIte, Nat.succ_ne_zero, Nat.zero_ne_one, Nat.one_ne_zero, Nat.reduceAdd, Nat.zero_add]; go_simp; exact hK _ hC)
                    | (refine opE_call rfl hb (fun _ => trivial) (fun h => (by cases h)) 41 #[.agg #[I lo, I hi], I 1048576] ?_ ?_
                       · (simp only [execOp, resolve, Oper.about, envB, lookB, lookV, nthV, List.map_toArray, List.map_cons, List.map_nil, Nat.reduceEqDiff, reduceIte, Nat.succ_ne_zero, Nat.zero_ne_one, Nat.one_ne_zero, Nat.reduceAdd, Nat.zero_add])
                         go_simp
                       · refine callsIn_wide.2 ((HC1.out _).mono ?_)
                         rintro e w6 ⟨rfl, hB6⟩
                         exact ⟨_, rfl, hK _ (hC.trans (hB6.mono hC.size))⟩)
                    | (refine opE_call rfl hb (fun _ => trivial) (fun h => (by cases h)) 32 #[I ho, I 1, I 1048576] ?_ ?_
                       · (simp only [execOp, resolve, Oper.about, envB, lookB, lookV, nthV, List.map_toArray, List.map_cons, List.map_nil, Nat.reduceEqDiff, reduceIte, Nat.succ_ne_zero, Nat.zero_ne_one, Nat.one_ne_zero, Nat.reduceAdd, Nat.zero_add])
                         go_simp
                       · refine callsIn_wide.2 ((HC2.out _).mono ?_)
                         rintro e w6 ⟨rfl, rfl⟩
                         exact ⟨_, rfl, hK _ hC⟩)
                    | (refine opE_call rfl hb (fun _ => trivial) (fun h => (by cases h)) 33 #[.agg #[.slice (some ⟨ab, ao, none⟩) x.sp.length c, I al, I ah]] ?_ ?_
                       · (simp only [execOp, resolve, Oper.about, envB, lookB, lookV, nthV, List.map_toArray, List.map_cons, List.map_nil, Nat.reduceEqDiff, reduceIte, Nat.succ_ne_zero, Nat.zero_ne_one, Nat.one_ne_zero, Nat.reduceAdd, Nat.zero_add])
                         go_simp
                       · refine callsIn_wide.2 ((HC4.out _).mono ?_)
                         rintro e w6 ⟨rfl, hB6⟩
                         exact ⟨_, rfl, hK _ (hC.trans (hB6.mono hC.size))⟩)
                    | (refine opE_call rfl hb (fun _ => trivial) (fun h => (by cases h)) 32 #[I ne, I 0, I (N - 1)] ?_ ?_
                       · (simp only [execOp, resolve, Oper.about, envB, lookB, lookV, nthV, List.map_toArray, List.map_cons, List.map_nil, Nat.reduceEqDiff, reduceIte, Nat.succ_ne_zero, Nat.zero_ne_one, Nat.one_ne_zero, Nat.reduceAdd, Nat.zero_add])
                         go_simp
                       · refine callsIn_wide.2 ((HC3.out _).mono ?_)
                         rintro e w6 ⟨rfl, rfl⟩
                         exact ⟨_, rfl, hK _ hC⟩)
                · (intro W hC; have HC := Lib.hid hC; clear hC; simp only [putD, nthV, Act.put, List.setIfInBounds_toArray, List.set_cons_succ, List.set_cons_zero, Nat.zero_add, Nat.reduceAdd])
                  have hCo := HC.out
                  clear HC
                  have hBf : Below w1.heap.size w1 W := hBa2.trans (hCo.mono hBa2.size)
                  obtain ⟨n0, n1, n2, n3, n4, n5, n6⟩ := HCX.out _ hCo
                  have hl := HLH.out rfl
                  have HO6 := Lib.hid (HOS.out (HIF.out.2 ⟨rfl, rfl, rfl⟩))
                  go_wp2
                  go_roundw
                  case rel => first | exact ⟨k + 1, by omega, by go_num, by rw [HSS.out.1], by rw [HSS.out.2], hBf, HO6⟩ | ((repeat apply Exists.intro); refine ⟨?_, rfl⟩; exact ⟨k + 1, by omega, by go_num, by rw [HSS.out.1], by rw [HSS.out.2], hBf, HO6⟩)
                  case measure => first | (simp [intOf]; done) | (simp [intOf]; omega)
        · obtain rfl : x.sp.length = k := by omega
          have HT := Lib.hid (HYA.out HOK.out)
          generalize sumN x.lo x.sp.length = sl at *
          generalize sumN x.hi x.sp.length = sh at *
          obtain ⟨q0, q1, q2⟩ := HCP.out _ hB
          cases hd1 : decide (sl ≤ ah) <;> cases hd2 : decide (al ≤ sh)
          all_goals
            rw [hd1, hd2] at HT
            go_wp2
            go_ret
            exact ⟨ret_b HT.out.symm, hBw⟩
end Go.Proofs.Ytfebhofihioaoaa
