/- Repeat, for longer rows. -/
import Derived.Test.YtgdilbilhajgaaaDoorRr
namespace Go.Proofs.YtgdilbilhajgaaaDoor
set_option linter.unusedVariables false
set_option linter.unusedSimpArgs false
open Go Go.RowKit

theorem mul90 (n : Nat) (hn : n ≤ 100000) (W : World) : Calls Tryd.prog 90 #[.int .u64 1, .int .u64 n] W fun e w' => e = .returned (.tuple #[.int .u64 0, .int .u64 n]) ∧ W = w' := by
  have h := Proofs.Any.bits_Mul Proofs.Tryd.mulL 1 n (by omega) (by omega) W
  refine (show Calls Tryd.prog 90 _ W _ from h).mono fun e w' ⟨h1, h2⟩ => ⟨?_, h2.symm⟩
  rw [h1]
  have e1 : 1 * n / 18446744073709551616 = 0 := by omega
  have e2 : 1 * n % 18446744073709551616 = n := by omega
  rw [e1, e2]
  rfl
set_option maxRecDepth 100000 in
set_option maxHeartbeats 4000000 in
theorem repeat68b (b off c : Nat) (x1 : Int) (n : Nat) (w : World) (hn : 1 ≤ n ∧ n ≤ 100000) (hb : b < w.heap.size) (hsrc : ∀ j v, [I x1][j]? = some v → w.cell? ((⟨b, off, none⟩ : Addr).add j) = some v)
    (hmul : ∀ W, Calls Tryd.prog 90 #[.int .u64 1, .int .u64 n] W fun e w' => e = .returned (.tuple #[.int .u64 0, .int .u64 n]) ∧ W = w') :
    Calls Tryd.prog 68 #[.slice (some ⟨b, off, none⟩) 1 c, I n] w fun e w' => e = .returned (.slice (some ⟨w.heap.size, 0, none⟩) n n) ∧ Below w.heap.size w w' ∧ Rp w' w.heap.size 3 1 n n [I x1] := by
  obtain ⟨i0, hi0, hi1, hi2, hi3⟩ := info_parts info3
  have hu : Tryd.prog.underlying 26 = some (.slice 3) := Tryd.underlying26
  have hsz : (Tryd.prog.info? 3).map (·.size) = some 1 := by rw [hi0]; exact congrArg some hi2
  have HU := Lib.hid hu; have HI0 := Lib.hid hi0; have HI1 := Lib.hid hi1; have HI2 := Lib.hid hi2; have HI3 := Lib.hid hi3; have HSZ := Lib.hid hsz
  have HSRC := Lib.hid hsrc
  have HM := Lib.hid hmul
  clear hu hi0 hi1 hi2 hi3 hsz hmul hsrc
  have HP : Hid (∀ v ∈ [I x1], v.oneCell' = true) := Lib.hid (by simp [Value.oneCell'])
  obtain ⟨pat, hpat⟩ : ∃ pat, pat = [I x1] := ⟨_, rfl⟩
  have hpl : Hid (pat.length = 1) := Lib.hid (by rw [hpat]; rfl)
  rw [← hpat] at HSRC HP ⊢
  clear hpat
  obtain ⟨hn1, hn2⟩ := hn
  have hcv : IntKind.u64.wrap (n : Int) = n := by simp [IntKind.wrap, IntKind.bits, IntKind.signed]; omega
  have hcw : IntKind.i64.wrap (n : Int) = n := IntWalk.i64_in _ (by omega)
  go_enter Tryd.func68, Tryd.ntmps68
  go_wp2_with (first
    | (go_at_call 90; refine (HM.out _).mono ?_; rintro e w1 ⟨rfl, rfl⟩)
    | (at_make; refine wpList_make_full _ rfl _ _ 26 rfl w.heap.size 3 i0 (I 0) 1 HU.out HI0.out HI1.out HI2.out .i64 .i64 n n n rfl rfl rfl rfl (by rw [HI3.out]; omega) (by unfold maxLen; omega) (Nat.le_refl _) ?_; intro w1 hown hg; obtain ⟨L0, HB0, hl0, HS1⟩ := mk0 hown hg hb HSRC; clear hown)
    | (refine wpList_copy_k rfl _ _ 26 26 rfl 3 1 HU.out HSZ.out w.heap.size 0 n n ⟨b, off, none⟩ 1 c 1 rfl rfl (min_one hn1) _ 3 HB0.out pat hpl.out HS1.out (by rw [hpl.out]; omega) HP.out ?_; intro w2 hw2 hg2; have HB2 := Lib.hid hw2; clear hw2)
    | fail)
  have hB2 : Below w.heap.size w w2 := ((Below.refl _ w).grown hg (Nat.le_refl _) (fun k e => by cases e)).grown hg2 (hg.size) (fun k e => by cases e; exact Nat.le_refl _)
  have hR2 : Hid (Rp w2 w.heap.size 3 1 n 1 pat) := Lib.hid (rp_one HB2.out hl0 hpl.out hn1)
  clear hg hg2 HB2 HB0
  go_loopw [8] (fun s wr => ∃ k : Nat, 1 ≤ k ∧ k ≤ n ∧ s = I k ∧ Below w.heap.size w wr ∧ Hid (Rp wr w.heap.size 3 1 n k pat)) (fun s _ => n - (intOf s).toNat)
  case atStart => exact ⟨1, Nat.le_refl _, hn1, rfl, hB2, hR2⟩
  case round =>
    clear hR2 hB2
    obtain ⟨k, hk1, hk, rfl, hB, HR⟩ := hrel
    by_cases hlt : k < n
    · obtain ⟨m, hm⟩ : ∃ m, m = Nat.min k (n - k) := ⟨_, rfl⟩
      have hm1 : 1 ≤ m ∧ m ≤ k ∧ m ≤ n - k := by rw [hm]; simp only [Nat.min_def]; split <;> omega
      have HMM := Lib.hid hm
      clear hm
      obtain ⟨hm1, hm2, hm3⟩ := hm1
      obtain ⟨L, hL, hll, hLp⟩ := HR.out
      have HL := Lib.hid hL
      have HLP := Lib.hid hLp
      clear hL hLp
      have hadd : IntKind.i64.wrap ((k : Int) + (m : Int)) = ((k + m : Nat) : Int) := by rw [IntWalk.i64_in _ (by omega)]; omega
      have b0 : (0 : Int) ≤ (k : Int) := by omega
      have b1 : (k : Int) ≤ (n : Int) := by omega
      have hnk : ¬ n = k := by omega
      go_wp2_with (fail)
      refine (wpIn_wide (n := 9)).1 ?_
      refine wpIn_region_plan (Plan.ons [0, 1, 2, 3, 4, 5, 6, 7, 8, 9] .fin) [0] (fun _ => True) [] rfl (by kernel_rfl) (by kernel_rfl) (fun _ d _ _ _ h => by cases d <;> exact h) trivial ?_
      (refine ordQ_held (I k) rfl rfl rfl rfl (fun W' hC' => ?_) (fun K hK => ?_); (focus (obtain _ := hC'; go_simp; try exact ⟨rfl, rfl⟩)); go_simp; refine hK _ ?_; clear hK K)
      iterate 6 (refine ordQ_li rfl rfl rfl (fun K hK => ?_); go_simp; refine hK _ ?_; clear hK K)
      refine ordQ_hv rfl rfl rfl (fun K hK => ?_)
      refine opIn_copy_k rfl _ _ _ 26 26 rfl 3 1 HU.out HSZ.out w.heap.size k (n - k) (n - k) ⟨w.heap.size, 0, none⟩ k n m rfl rfl HMM.out.symm L 3 HL.out (L.take (m * 1)) (by simp; omega) (fun j v hj => ?_) (by simp; omega) ?_ ?_
      · have hj2 : L[j]? = some v := by
          rw [List.getElem?_take] at hj
          split at hj
          · exact hj
          · cases hj
        rw [Addr.add_lit, Nat.zero_add]
        exact block_cells (w := wr.drew) HL.out j v hj2
      · intro v hv
        obtain ⟨j, hj⟩ := List.mem_iff_getElem?.1 hv
        rw [List.getElem?_take] at hj
        split at hj
        · rw [HLP.out j (by have : m * 1 ≤ k * 1 := Nat.mul_le_mul_right _ hm2; omega)] at hj
          exact HP.out v (List.mem_of_getElem? hj)
        · cases hj
      intro w3 hw3 hg3
      have hR3 : Hid (Rp w3 w.heap.size 3 1 n (k + m) pat) := Lib.hid (rp_more (by (try simp only [Nat.mul_one] at hw3 ⊢); exact hw3) hll HLP.out hm2 (by omega))
      have hB3 : Below w.heap.size w w3 := hB.drew.grown hg3 hB.size (fun j e => by cases e; exact Nat.le_refl _)
      clear hw3 hg3
      refine hK _ _ (fun _ => trivial) ?_
      clear hK K
      iterate 2 (refine ordQ_li rfl rfl rfl (fun K hK => ?_); go_simp; refine hK _ ?_; clear hK K)
      refine ordQ_fin ?_
      go_wp2
      go_roundw
      case rel => exact ⟨k + m, by omega, by omega, by go_num, hB3, hR3⟩
      case measure => simp [intOf]; omega
    · obtain rfl : n = k := by omega
      go_wp2
      go_ret
      exact ⟨rfl, hB, HR.out⟩
end Go.Proofs.YtgdilbilhajgaaaDoor
