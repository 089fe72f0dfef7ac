/- Lacking, of the document. -/
import Derived.Test.YtfebhofihioaoaaS12
namespace Go.Proofs.Ytfebhofihioaoaa
set_option linter.unusedVariables false
set_option linter.unusedSimpArgs false
open Go Go.RowKit

/-- What 'Lacking' answers: the set, how many, and the kind of error. -/
def lackOf (b1 b2 : Bool) (la : Nat × Int) : Int × Int × Int := if b1 then (if b2 then (if la.1 = 0 then (0, 0, 4) else ((la.1 : Int), la.2, 0)) else (0, 0, 2)) else (0, 0, 1)
noncomputable def lackR (x : Prk) (l : List Int) : Int × Int × Int := lackOf (prkB x) (postsB x l) (lackTo (needV x) (forX x (crF l)) (2 ^ x.n))
theorem posts_crF {x : Prk} {l : List Int} (h : PostsOk x l) : l.length = x.n ∧ ∀ i, i < x.n → 0 ≤ crF l i ∧ crF l i ≤ 12 := by
  refine ⟨h.1, fun i hi => ?_⟩
  have h1 : i < l.length := by rw [h.1]; exact hi
  have := h.2 i h1
  simpa [List.getD, h1] using this
set_option maxRecDepth 100000 in
set_option maxHeartbeats 2000000 in
theorem lacking16_of (x : Prk) (A B : Option Addr) (c d : Nat) (l : List Int) (w : World) (hA : Fours w w.heap.size A x.sp) (hl : Ints w w.heap.size B l) (hxl : x.sp.length ≤ 9223372036854775807) (hll : l.length ≤ 9223372036854775807)
    (h34 : PrkOk x → ∀ (k : Nat) (W : World), k < 64 → Fours W W.heap.size A x.sp → Calls Try.prog 34 #[x.val A c, I k] W fun e w' => e = .returned (I (needV x k)) ∧ Below W.heap.size W w') :
    Calls Try.prog 16 #[x.val A c, .slice B l.length d] w fun e w' => e = .returned (.tuple #[I (lackR x l).1, I (lackR x l).2.1, I (lackR x l).2.2]) ∧ Below w.heap.size w w' := by
  have HA := Lib.hid hA
  have HL := Lib.hid hl
  have H17 : Hid (∀ W : World, Fours W W.heap.size A x.sp → Calls Try.prog 17 #[.agg #[.slice A x.sp.length c, I x.alo, I x.ahi]] W fun e w' => e = .returned (.bool (prkB x)) ∧ Below W.heap.size W w') := Lib.hid fun W h => park17 x A c W h hxl
  have H21 : Hid (∀ W : World, Ints W W.heap.size B l → Calls Try.prog 21 #[.agg #[.slice A x.sp.length c, I x.alo, I x.ahi], .slice B l.length d] W fun e w' => e = .returned (.bool (postsB x l)) ∧ Below W.heap.size W w') := Lib.hid fun W h => posts21 x A B c d l W h hll hxl
  have H40 : Hid (prkB x = true → postsB x l = true → ∀ W : World, Fours W W.heap.size A x.sp → Ints W W.heap.size B l → Calls Try.prog 40 #[.agg #[.slice A x.sp.length c, I x.alo, I x.ahi], .slice B l.length d] W fun e w' =>
      e = .returned (.tuple #[I ((lackTo (needV x) (forX x (crF l)) (2 ^ x.n)).1 : Nat), I (lackTo (needV x) (forX x (crF l)) (2 ^ x.n)).2]) ∧ Below W.heap.size W w') := Lib.hid fun h1 h2 W hf hi => by
    have hx := prkB_iff.1 h1
    obtain ⟨g1, g2⟩ := posts_crF (postsB_iff.1 h2)
    exact lacking40_of x A B c d l W hx hf hi g1 g2 (h34 hx)
  have HR : Hid (lackR x l = lackOf (prkB x) (postsB x l) (lackTo (needV x) (forX x (crF l)) (2 ^ x.n))) := Lib.hid rfl
  clear hA hl hxl hll h34
  simp only [Prk.val]
  generalize prkB x = b1 at *
  generalize postsB x l = b2 at *
  generalize lackR x l = r at *
  generalize lackTo (needV x) (forX x (crF l)) (2 ^ x.n) = la at *
  generalize x.alo = al at *
  generalize x.ahi = ah at *
  obtain ⟨ls, lm⟩ := la
  simp only at H40 HR
  have HW : Hid (Below w.heap.size w (w.alloc (.cells #[.slice A x.sp.length c, I al, I ah] 26))) := Lib.hid (below1 _ _)
  have HCP : Hid (∀ W, Below (w.heap.size + 1) (w.alloc (.cells #[.slice A x.sp.length c, I al, I ah] 26)) W → W.cell? ⟨w.heap.size, 0, none⟩ = some (.slice A x.sp.length c) ∧ W.cell? ⟨w.heap.size, 1, none⟩ = some (I al) ∧ W.cell? ⟨w.heap.size, 2, none⟩ = some (I ah) ∧ Below w.heap.size w W) := Lib.hid fun W hW =>
    ⟨(hW.cell (p := ⟨_, _, none⟩) (by simp)).trans (by simp [go_sem]), (hW.cell (p := ⟨_, _, none⟩) (by simp)).trans (by simp [go_sem]), (hW.cell (p := ⟨_, _, none⟩) (by simp)).trans (by simp [go_sem]), (below1 w _).trans (hW.mono (by omega))⟩
  have HFI : Hid (∀ W, Below w.heap.size w W → Fours W W.heap.size A x.sp ∧ Ints W W.heap.size B l) := Lib.hid fun W hW => ⟨(HA.out.below hW).more hW.size, (HL.out.below hW).more hW.size⟩
  have hsz : (w.alloc (.cells #[.slice A x.sp.length c, I al, I ah] 26)).heap.size = w.heap.size + 1 := by simp
  cases b1
  · have HR1 : Hid (r = (0, 0, 1)) := Lib.hid (by rw [HR.out]; rfl)
    clear HR H40
    go_enter Try.func16, Try.ntmps16
    go_wp2_with (first
      | (go_at_call 17; refine (H17.out _ (HFI.out _ HW.out).1).mono ?_; rintro e w1 ⟨rfl, hB1⟩)
      | fail)
    refine bodyPost_ret (v := .tuple #[I 0, I 0, I 1]) (by simp [results, Try.results16, go_sem]) rfl ⟨by rw [HR1.out], HW.out.trans (hB1.mono (by omega))⟩
  · cases b2
    · have HR1 : Hid (r = (0, 0, 2)) := Lib.hid (by rw [HR.out]; rfl)
      clear HR H40
      go_enter Try.func16, Try.ntmps16
      go_wp2_with (first
        | (go_at_call 17; refine (H17.out _ (HFI.out _ HW.out).1).mono ?_; rintro e w1 ⟨rfl, hB1⟩; obtain ⟨q0, q1, q2, hBw1⟩ := HCP.out w1 (hB1.mono (by omega)))
        | (go_at_call 21; refine (H21.out _ (HFI.out _ hBw1).2).mono ?_; rintro e w2 ⟨rfl, hB2⟩)
        | fail)
      refine bodyPost_ret (v := .tuple #[I 0, I 0, I 2]) (by simp [results, Try.results16, go_sem]) rfl ⟨by rw [HR1.out], hBw1.trans (hB2.mono hBw1.size)⟩
    · have H40' := Lib.hid (H40.out rfl rfl)
      clear H40
      by_cases h0 : ls = 0
      · subst h0
        have HR1 : Hid (r = (0, 0, 4)) := Lib.hid (by rw [HR.out]; simp [lackOf])
        clear HR
        go_enter Try.func16, Try.ntmps16
        go_wp2_with (first
          | (go_at_call 17; refine (H17.out _ (HFI.out _ HW.out).1).mono ?_; rintro e w1 ⟨rfl, hB1⟩; obtain ⟨q0, q1, q2, hBw1⟩ := HCP.out w1 (hB1.mono (by omega)))
          | (go_at_call 21; refine (H21.out _ (HFI.out _ hBw1).2).mono ?_; rintro e w2 ⟨rfl, hB2⟩; obtain ⟨s0, s1, s2, hBw2⟩ := HCP.out w2 ((hB1.mono (by omega)).trans (hB2.mono (by have := hB1.size; omega))))
          | (go_at_call 40; refine (H40'.out _ (HFI.out _ hBw2).1 (HFI.out _ hBw2).2).mono ?_; rintro e w3 ⟨rfl, hB3⟩)
          | fail)
        refine bodyPost_ret (v := .tuple #[I 0, I 0, I 4]) (by simp [results, Try.results16, go_sem]) rfl ⟨by rw [HR1.out], hBw2.trans (hB3.mono hBw2.size)⟩
      · have HR1 : Hid (r = ((ls : Int), lm, 0)) := Lib.hid (by rw [HR.out]; simp [lackOf, h0])
        have e0 : ((ls : Int) == 0) = false := by simpa using h0
        have e0' : (ls == 0) = false := by simpa using h0
        clear HR
        go_enter Try.func16, Try.ntmps16
        go_wp2_with (first
          | (go_at_call 17; refine (H17.out _ (HFI.out _ HW.out).1).mono ?_; rintro e w1 ⟨rfl, hB1⟩; obtain ⟨q0, q1, q2, hBw1⟩ := HCP.out w1 (hB1.mono (by omega)))
          | (go_at_call 21; refine (H21.out _ (HFI.out _ hBw1).2).mono ?_; rintro e w2 ⟨rfl, hB2⟩; obtain ⟨s0, s1, s2, hBw2⟩ := HCP.out w2 ((hB1.mono (by omega)).trans (hB2.mono (by have := hB1.size; omega))))
          | (go_at_call 40; refine (H40'.out _ (HFI.out _ hBw2).1 (HFI.out _ hBw2).2).mono ?_; rintro e w3 ⟨rfl, hB3⟩)
          | fail)
        refine bodyPost_ret (v := .tuple #[I ls, I lm, I 0]) (by simp [results, Try.results16, go_sem]) rfl ⟨by rw [HR1.out], hBw2.trans (hB3.mono hBw2.size)⟩
end Go.Proofs.Ytfebhofihioaoaa
