/- Need, of the document. -/
import Derived.Test.YtfebhofihioaoaaS13
namespace Go.Proofs.Ytfebhofihioaoaa
set_option linter.unusedVariables false
set_option linter.unusedSimpArgs false
open Go Go.RowKit

/-- What 'Need' answers: how many, and the kind of error. -/
noncomputable def needR (x : Prk) (s : Int) : Int × Int := if prkB x then (if inB s 0 ((2 : Int) ^ x.n - 1) then (needV x s.toNat, 0) else (0, 2)) else (0, 1)
set_option maxRecDepth 100000 in
set_option maxHeartbeats 2000000 in
theorem need12_of (x : Prk) (A : Option Addr) (c : Nat) (s : Int) (w : World) (hA : Fours w w.heap.size A x.sp) (hxl : x.sp.length ≤ 9223372036854775807)
    (h34 : PrkOk x → ∀ (k : Nat) (W : World), k < 64 → Fours W W.heap.size A x.sp → Calls Try.prog 34 #[x.val A c, I k] W fun e w' => e = .returned (I (needV x k)) ∧ Below W.heap.size W w') :
    Calls Try.prog 12 #[x.val A c, I s] w fun e w' => e = .returned (.tuple #[I (needR x s).1, I (needR x s).2]) ∧ Below w.heap.size w w' := by
  have HA := Lib.hid hA
  have H17 : Hid (∀ W : World, Fours W W.heap.size A x.sp → Calls Try.prog 17 #[.agg #[.slice A x.sp.length c, I x.alo, I x.ahi]] W fun e w' => e = .returned (.bool (prkB x)) ∧ Below W.heap.size W w') := Lib.hid fun W h => park17 x A c W h hxl
  have HN0 : Hid (prkB x = false → needR x s = (0, 1)) := Lib.hid fun h => by simp [needR, h]
  have HN1 : Hid (prkB x = true → ∃ N : Nat, 1 ≤ N ∧ N ≤ 64 ∧ (inB s 0 ((N : Int) - 1) = false → needR x s = (0, 2)) ∧ (inB s 0 ((N : Int) - 1) = true → ∃ k : Nat, s = (k : Int) ∧ k < 64 ∧ needR x s = (needV x k, 0)) ∧
      (∀ W : World, Calls Try.prog 33 #[.agg #[.slice A x.sp.length c, I x.alo, I x.ahi]] W fun e w' => e = .returned (I N) ∧ Below W.heap.size W w') ∧
      (∀ (k : Nat) (W : World), k < 64 → Fours W W.heap.size A x.sp → Calls Try.prog 34 #[.agg #[.slice A x.sp.length c, I x.alo, I x.ahi], I k] W fun e w' => e = .returned (I (needV x k)) ∧ Below W.heap.size W w')) := Lib.hid fun h => by
    have hx := prkB_iff.1 h
    obtain ⟨N, _, hNI, hN1, hN2⟩ := pow_nat hx.n6
    have h6 : x.sp.length ≤ 6 := hx.n6
    refine ⟨N, hN1, hN2, fun h2 => ?_, fun h2 => ?_, fun W => ?_, h34 hx⟩
    · unfold needR; rw [hNI, h, h2]; rfl
    · have h3 := inB_true.1 h2
      refine ⟨s.toNat, by omega, by omega, ?_⟩
      unfold needR; rw [hNI, h, h2]; rfl
    · have := sets33 x A c W (by omega)
      rwa [show (2 : Int) ^ x.sp.length = (N : Int) from hNI] at this
  clear hA hxl h34
  simp only [Prk.val]
  generalize prkB x = b1 at *
  generalize needR x s = r at *
  generalize x.alo = al at *
  generalize x.ahi = ah at *
  have HW : Hid (Below w.heap.size w (w.alloc (.cells #[.slice A x.sp.length c, I al, I ah] 26))) := Lib.hid (below1 _ _)
  have HCP : Hid (∀ W, Below (w.heap.size + 1) (w.alloc (.cells #[.slice A x.sp.length c, I al, I ah] 26)) W → W.cell? ⟨w.heap.size, 0, none⟩ = some (.slice A x.sp.length c) ∧ W.cell? ⟨w.heap.size, 1, none⟩ = some (I al) ∧ W.cell? ⟨w.heap.size, 2, none⟩ = some (I ah) ∧ Below w.heap.size w W) := Lib.hid fun W hW =>
    ⟨(hW.cell (p := ⟨_, _, none⟩) (by simp)).trans (by simp [go_sem]), (hW.cell (p := ⟨_, _, none⟩) (by simp)).trans (by simp [go_sem]), (hW.cell (p := ⟨_, _, none⟩) (by simp)).trans (by simp [go_sem]), (below1 w _).trans (hW.mono (by omega))⟩
  have HFI : Hid (∀ W, Below w.heap.size w W → Fours W W.heap.size A x.sp) := Lib.hid fun W hW => (HA.out.below hW).more hW.size
  have hsz : (w.alloc (.cells #[.slice A x.sp.length c, I al, I ah] 26)).heap.size = w.heap.size + 1 := by simp
  cases b1
  · have HR1 := Lib.hid (HN0.out rfl)
    clear HN0 HN1
    go_enter Try.func12, Try.ntmps12
    go_wp2_with (first
      | (go_at_call 17; refine (H17.out _ (HFI.out _ HW.out)).mono ?_; rintro e w1 ⟨rfl, hB1⟩)
      | fail)
    refine bodyPost_ret (v := .tuple #[I 0, I 1]) (by simp [results, Try.results12, go_sem]) rfl ⟨by rw [HR1.out], HW.out.trans (hB1.mono (by omega))⟩
  · obtain ⟨N, hN1, hN2, h2, h3, h33, h34⟩ := HN1.out rfl
    have H33 := Lib.hid h33
    have H32 : Hid (∀ W : World, Calls Try.prog 32 #[I s, I 0, I ((N : Int) - 1)] W fun e w' => e = .returned (.bool (inB s 0 ((N : Int) - 1))) ∧ W = w') := Lib.hid fun W => in32 _ _ _ W
    have H34 := Lib.hid h34
    have H2 := Lib.hid h2
    have H3 := Lib.hid h3
    clear h2 h3 h33 h34 HN0 HN1
    generalize inB s 0 ((N : Int) - 1) = b2 at *
    cases b2
    · have HR1 := Lib.hid (H2.out rfl)
      clear H2 H3
      go_enter Try.func12, Try.ntmps12
      go_wp2_with (first
        | (go_at_call 17; refine (H17.out _ (HFI.out _ HW.out)).mono ?_; rintro e w1 ⟨rfl, hB1⟩; obtain ⟨q0, q1, q2, hBw1⟩ := HCP.out w1 (hB1.mono (by omega)))
        | (go_at_call 33; refine (H33.out _).mono ?_; rintro e w2 ⟨rfl, hB2⟩; obtain ⟨s0, s1, s2, hBw2⟩ := HCP.out w2 ((hB1.mono (by omega)).trans (hB2.mono (by have := hB1.size; omega))))
        | (go_at_call 32; refine (H32.out _).mono ?_; rintro e w3 ⟨rfl, rfl⟩)
        | fail)
      refine bodyPost_ret (v := .tuple #[I 0, I 2]) (by simp [results, Try.results12, go_sem]) rfl ⟨by rw [HR1.out], hBw2⟩
    · obtain ⟨k, rfl, hk, hr⟩ := H3.out rfl
      have HR1 := Lib.hid hr
      clear H2 H3 hr
      go_enter Try.func12, Try.ntmps12
      go_wp2_with (first
        | (go_at_call 17; refine (H17.out _ (HFI.out _ HW.out)).mono ?_; rintro e w1 ⟨rfl, hB1⟩; obtain ⟨q0, q1, q2, hBw1⟩ := HCP.out w1 (hB1.mono (by omega)))
        | (go_at_call 33; refine (H33.out _).mono ?_; rintro e w2 ⟨rfl, hB2⟩; obtain ⟨s0, s1, s2, hBw2⟩ := HCP.out w2 ((hB1.mono (by omega)).trans (hB2.mono (by have := hB1.size; omega))))
        | (go_at_call 32; refine (H32.out _).mono ?_; rintro e w3 ⟨rfl, rfl⟩)
        | (go_at_call 34; refine (H34.out k _ hk (HFI.out _ hBw2)).mono ?_; rintro e w4 ⟨rfl, hB4⟩)
        | fail)
      refine bodyPost_ret (v := .tuple #[I (needV x k), I 0]) (by simp [results, Try.results12, go_sem]) rfl ⟨by rw [HR1.out], hBw2.trans (hB4.mono hBw2.size)⟩
end Go.Proofs.Ytfebhofihioaoaa
