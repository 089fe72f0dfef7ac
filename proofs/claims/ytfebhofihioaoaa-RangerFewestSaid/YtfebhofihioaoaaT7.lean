/- RangerFewest: the walk. -/
import Derived.Test.YtfebhofihioaoaaS28
import Derived.Test.YtfebhofihioaoaaS31
namespace Go.Proofs.Ytfebhofihioaoaa
set_option linter.unusedVariables false
set_option linter.unusedSimpArgs false
open Go Go.RowKit

theorem needR_zero {x : Prk} (hp : prkB x = true) : needR x 0 = (0, 0) := by
  have hx := prkB_iff.1 hp
  have h : ((2 ^ x.n : Nat) : Int) = (2 : Int) ^ x.n := by simp
  have h0 := Nat.two_pow_pos x.n
  unfold needR
  rw [hp, if_pos rfl, if_pos (inB_true.2 ⟨by omega, by rw [← h]; omega⟩)]
  simp only [Int.toNat_zero, needV_zero (allNeed hx)]
theorem needR_all {x : Prk} (hp : prkB x = true) : needR x ((2 : Int) ^ x.n - 1) = (needV x (2 ^ x.n - 1), 0) := by
  have h : ((2 ^ x.n : Nat) : Int) = (2 : Int) ^ x.n := by simp
  have h0 := Nat.two_pow_pos x.n
  unfold needR
  rw [hp, if_pos rfl, if_pos (inB_true.2 ⟨by rw [← h]; omega, by omega⟩)]
  rw [← h, show (((2 ^ x.n : Nat) : Int) - 1).toNat = 2 ^ x.n - 1 by omega]
theorem pow_sixC {i : Nat} (h : i ≤ 6) : 2 ^ i ≤ 64 := by
  have := Nat.pow_le_pow_right (show 0 < 2 by omega) h
  simpa using this
set_option maxRecDepth 100000 in
set_option maxHeartbeats 8000000 in
theorem fewest_false (x : Prk) (A : Option Addr) (c : Nat) (w : World) (hA : Fours w w.heap.size A x.sp) (hx : Prk64 x) (hp : prkB x = false) :
    Calls Try.prog 4 #[x.val A c] w fun e w' => e = .returned (.bool true) ∧ Below w.heap.size w w' := by
  have HFI : Hid (∀ W, Below w.heap.size w W → Fours W W.heap.size A x.sp) := Lib.hid fun W hW => (hA.below hW).more hW.size
  have hxl := hx.len
  have H9 : Hid (∀ W : World, Fours W W.heap.size A x.sp → Calls Try.prog 9 #[.agg #[.slice A x.sp.length c, I x.alo, I x.ahi]] W fun e w' => ∃ b : Bool, e = .returned (.bool b) ∧ Below W.heap.size W w') := Lib.hid fun W h => busy9 x A c W h hx
  have H10 : Hid (∀ W : World, Calls Try.prog 10 #[] W fun e w' => e = .returned (.bool true) ∧ Below W.heap.size W w') := Lib.hid awake10
  have HFL : Hid ((fewR x).1.length ≤ 9223372036854775807) := Lib.hid (fewR_len x)
  have H18 : Hid (∀ W : World, Fours W W.heap.size A x.sp → Calls Try.prog 18 #[.agg #[.slice A x.sp.length c, I x.alo, I x.ahi]] W fun e w' => ∃ (B : Option Addr) (d : Nat), e = .returned (.tuple #[.slice B (fewR x).1.length d, I (fewR x).2]) ∧ Ints w' w'.heap.size B (fewR x).1 ∧ Below W.heap.size W w') := Lib.hid fun W h => fewest18 x A c W h hxl
  have H19 : Hid (∀ W : World, Fours W W.heap.size A x.sp → Calls Try.prog 19 #[.agg #[.slice A x.sp.length c, I x.alo, I x.ahi]] W fun e w' => ∃ (B : Option Addr) (d : Nat), e = .returned (.tuple #[.slice B (fewR x).1.length d, I (fewR x).2]) ∧ Ints w' w'.heap.size B (fewR x).1 ∧ Below W.heap.size W w') := Lib.hid fun W h => doc19 x A c W h hxl
  have H20 : Hid (∀ (W : World) (B C : Option Addr) (d f : Nat), Ints W W.heap.size B (fewR x).1 → Ints W W.heap.size C (fewR x).1 → Calls Try.prog 20 #[.slice B (fewR x).1.length d, .slice C (fewR x).1.length f] W fun e w' => e = .returned (.bool true) ∧ Below W.heap.size W w') := Lib.hid fun W B C d f h1 h2 => by
    have := ints20 B C d f (fewR x).1 (fewR x).1 W h1 h2 HFL.out HFL.out
    simpa using this
  generalize (fewR x).1 = fl at *
  generalize (fewR x).2 = fe at *
  have H17 : Hid (∀ W : World, Fours W W.heap.size A x.sp → Calls Try.prog 17 #[.agg #[.slice A x.sp.length c, I x.alo, I x.ahi]] W fun e w' => e = .returned (.bool false) ∧ Below W.heap.size W w') := Lib.hid fun W h => by
    have := park17 x A c W h hxl
    rwa [hp] at this
  clear hp
  clear hA hx
  simp only [Prk.val]
  generalize x.alo = al at *
  generalize x.ahi = ah at *
  have HW : Hid (Below w.heap.size w (w.alloc (.cells #[.slice A x.sp.length c, I al, I ah] 26))) := Lib.hid (below1 _ _)
  have HCP : Hid (∀ W, Below (w.heap.size + 1) (w.alloc (.cells #[.slice A x.sp.length c, I al, I ah] 26)) W → W.cell? ⟨w.heap.size, 0, none⟩ = some (.slice A x.sp.length c) ∧ W.cell? ⟨w.heap.size, 1, none⟩ = some (I al) ∧ W.cell? ⟨w.heap.size, 2, none⟩ = some (I ah) ∧ Below w.heap.size w W) := Lib.hid fun W hW =>
    ⟨(hW.cell (p := ⟨_, _, none⟩) (by simp)).trans (by simp [go_sem]), (hW.cell (p := ⟨_, _, none⟩) (by simp)).trans (by simp [go_sem]), (hW.cell (p := ⟨_, _, none⟩) (by simp)).trans (by simp [go_sem]), (below1 w _).trans (hW.mono (by omega))⟩
  have HST : Hid (∀ V W X : World, Below (w.heap.size + 1) V W → w.heap.size + 1 ≤ W.heap.size → Below W.heap.size W X → Below (w.heap.size + 1) V X ∧ w.heap.size + 1 ≤ X.heap.size) := Lib.hid fun V W X h1 h2 h3 => ⟨h1.trans (h3.mono h2), by have := h3.size; omega⟩
  have hsz : (w.alloc (.cells #[.slice A x.sp.length c, I al, I ah] 26)).heap.size = w.heap.size + 1 := by simp
  go_enter Try.func4, Try.ntmps4
  go_wp2_with (fail)
  refine (H9.out _ (HFI.out _ HW.out)).mono ?_
  rintro e w1 ⟨b, rfl, hB1⟩
  have hb1 : Below (w.heap.size + 1) (w.alloc (.cells #[.slice A x.sp.length c, I al, I ah] 26)) w1 := hB1.mono (by omega)
  have hz1 : w.heap.size + 1 ≤ w1.heap.size := by have := hB1.size; omega
  obtain ⟨q0, q1, q2, hBw1⟩ := HCP.out w1 hb1
  clear hB1
  cases b
  · go_wp2_with (first
      | (go_at_call 17; refine (H17.out _ (HFI.out _ hBw1)).mono ?_; rintro e w2 ⟨rfl, hB2⟩; obtain ⟨hb2, hz2⟩ := HST.out _ _ _ hb1 hz1 hB2; obtain ⟨c20, c21, c22, hBw2⟩ := HCP.out w2 hb2)
      | fail)
    go_wp2_with (first
      | (go_at_call 18; refine (H18.out _ (HFI.out _ hBw2)).mono ?_; rintro e w3 ⟨B1, d1, rfl, hI1, hB3⟩; obtain ⟨hb3, hz3⟩ := HST.out _ _ _ hb2 hz2 hB3; obtain ⟨c30, c31, c32, hBw3⟩ := HCP.out w3 hb3; have HI1 := Lib.hid hI1; clear hI1)
      | (go_at_call 19; refine (H19.out _ (HFI.out _ hBw3)).mono ?_; rintro e w4 ⟨B2, d2, rfl, hI2, hB4⟩; obtain ⟨hb4, hz4⟩ := HST.out _ _ _ hb3 hz3 hB4; obtain ⟨c40, c41, c42, hBw4⟩ := HCP.out w4 hb4; have HI2 := Lib.hid hI2; clear hI2; have HI1b := Lib.hid ((HI1.out.below hB4).more hB4.size))
      | (go_at_call 20; refine (H20.out _ _ _ _ _ HI1b.out HI2.out).mono ?_; rintro e w5 ⟨rfl, hB5⟩; obtain ⟨hb5, hz5⟩ := HST.out _ _ _ hb4 hz4 hB5; obtain ⟨c50, c51, c52, hBw5⟩ := HCP.out w5 hb5)
      | (go_at_call 10; refine (H10.out _).mono ?_; rintro e w6 ⟨rfl, hB6⟩; obtain ⟨hb6, hz6⟩ := HST.out _ _ _ hb5 hz5 hB6; obtain ⟨c60, c61, c62, hBw6⟩ := HCP.out w6 hb6)
      | fail)
    refine bodyPost_ret (v := .bool true) (by simp [results, Try.results4, go_sem]) rfl ⟨rfl, hBw6⟩
  · go_wp2_with (first
      | (go_at_call 10; refine (H10.out _).mono ?_; rintro e w2 ⟨rfl, hB2⟩)
      | fail)
    refine bodyPost_ret (v := .bool true) (by simp [results, Try.results4, go_sem]) rfl ⟨rfl, hBw1.trans (hB2.mono hBw1.size)⟩
set_option maxRecDepth 100000 in
set_option maxHeartbeats 8000000 in
theorem fewest_small (x : Prk) (A : Option Addr) (c : Nat) (w : World) (hA : Fours w w.heap.size A x.sp) (hx : Prk64 x) (hp : prkB x = true) (h3 : x.sp.length ≤ 3) :
    Calls Try.prog 4 #[x.val A c] w fun e w' => e = .returned (.bool true) ∧ Below w.heap.size w w' := by
  have HFI : Hid (∀ W, Below w.heap.size w W → Fours W W.heap.size A x.sp) := Lib.hid fun W hW => (hA.below hW).more hW.size
  have hxl := hx.len
  have H9 : Hid (∀ W : World, Fours W W.heap.size A x.sp → Calls Try.prog 9 #[.agg #[.slice A x.sp.length c, I x.alo, I x.ahi]] W fun e w' => ∃ b : Bool, e = .returned (.bool b) ∧ Below W.heap.size W w') := Lib.hid fun W h => busy9 x A c W h hx
  have H10 : Hid (∀ W : World, Calls Try.prog 10 #[] W fun e w' => e = .returned (.bool true) ∧ Below W.heap.size W w') := Lib.hid awake10
  have HFL : Hid ((fewR x).1.length ≤ 9223372036854775807) := Lib.hid (fewR_len x)
  have H18 : Hid (∀ W : World, Fours W W.heap.size A x.sp → Calls Try.prog 18 #[.agg #[.slice A x.sp.length c, I x.alo, I x.ahi]] W fun e w' => ∃ (B : Option Addr) (d : Nat), e = .returned (.tuple #[.slice B (fewR x).1.length d, I (fewR x).2]) ∧ Ints w' w'.heap.size B (fewR x).1 ∧ Below W.heap.size W w') := Lib.hid fun W h => fewest18 x A c W h hxl
  have H19 : Hid (∀ W : World, Fours W W.heap.size A x.sp → Calls Try.prog 19 #[.agg #[.slice A x.sp.length c, I x.alo, I x.ahi]] W fun e w' => ∃ (B : Option Addr) (d : Nat), e = .returned (.tuple #[.slice B (fewR x).1.length d, I (fewR x).2]) ∧ Ints w' w'.heap.size B (fewR x).1 ∧ Below W.heap.size W w') := Lib.hid fun W h => doc19 x A c W h hxl
  have H20 : Hid (∀ (W : World) (B C : Option Addr) (d f : Nat), Ints W W.heap.size B (fewR x).1 → Ints W W.heap.size C (fewR x).1 → Calls Try.prog 20 #[.slice B (fewR x).1.length d, .slice C (fewR x).1.length f] W fun e w' => e = .returned (.bool true) ∧ Below W.heap.size W w') := Lib.hid fun W B C d f h1 h2 => by
    have := ints20 B C d f (fewR x).1 (fewR x).1 W h1 h2 HFL.out HFL.out
    simpa using this
  generalize (fewR x).1 = fl at *
  generalize (fewR x).2 = fe at *
  have H17 : Hid (∀ W : World, Fours W W.heap.size A x.sp → Calls Try.prog 17 #[.agg #[.slice A x.sp.length c, I x.alo, I x.ahi]] W fun e w' => e = .returned (.bool true) ∧ Below W.heap.size W w') := Lib.hid fun W h => by
    have := park17 x A c W h hxl
    rwa [hp] at this
  clear hp
  clear hA hx
  simp only [Prk.val]
  generalize x.alo = al at *
  generalize x.ahi = ah at *
  have HW : Hid (Below w.heap.size w (w.alloc (.cells #[.slice A x.sp.length c, I al, I ah] 26))) := Lib.hid (below1 _ _)
  have HCP : Hid (∀ W, Below (w.heap.size + 1) (w.alloc (.cells #[.slice A x.sp.length c, I al, I ah] 26)) W → W.cell? ⟨w.heap.size, 0, none⟩ = some (.slice A x.sp.length c) ∧ W.cell? ⟨w.heap.size, 1, none⟩ = some (I al) ∧ W.cell? ⟨w.heap.size, 2, none⟩ = some (I ah) ∧ Below w.heap.size w W) := Lib.hid fun W hW =>
    ⟨(hW.cell (p := ⟨_, _, none⟩) (by simp)).trans (by simp [go_sem]), (hW.cell (p := ⟨_, _, none⟩) (by simp)).trans (by simp [go_sem]), (hW.cell (p := ⟨_, _, none⟩) (by simp)).trans (by simp [go_sem]), (below1 w _).trans (hW.mono (by omega))⟩
  have HST : Hid (∀ V W X : World, Below (w.heap.size + 1) V W → w.heap.size + 1 ≤ W.heap.size → Below W.heap.size W X → Below (w.heap.size + 1) V X ∧ w.heap.size + 1 ≤ X.heap.size) := Lib.hid fun V W X h1 h2 h3 => ⟨h1.trans (h3.mono h2), by have := h3.size; omega⟩
  have hsz : (w.alloc (.cells #[.slice A x.sp.length c, I al, I ah] 26)).heap.size = w.heap.size + 1 := by simp
  go_enter Try.func4, Try.ntmps4
  go_wp2_with (fail)
  refine (H9.out _ (HFI.out _ HW.out)).mono ?_
  rintro e w1 ⟨b, rfl, hB1⟩
  have hb1 : Below (w.heap.size + 1) (w.alloc (.cells #[.slice A x.sp.length c, I al, I ah] 26)) w1 := hB1.mono (by omega)
  have hz1 : w.heap.size + 1 ≤ w1.heap.size := by have := hB1.size; omega
  obtain ⟨q0, q1, q2, hBw1⟩ := HCP.out w1 hb1
  clear hB1
  cases b
  · go_wp2_with (first
      | (go_at_call 17; refine (H17.out _ (HFI.out _ hBw1)).mono ?_; rintro e w2 ⟨rfl, hB2⟩; obtain ⟨hb2, hz2⟩ := HST.out _ _ _ hb1 hz1 hB2; obtain ⟨c20, c21, c22, hBw2⟩ := HCP.out w2 hb2)
      | fail)
    go_wp2_with (first
      | (go_at_call 18; refine (H18.out _ (HFI.out _ hBw2)).mono ?_; rintro e w3 ⟨B1, d1, rfl, hI1, hB3⟩; obtain ⟨hb3, hz3⟩ := HST.out _ _ _ hb2 hz2 hB3; obtain ⟨c30, c31, c32, hBw3⟩ := HCP.out w3 hb3; have HI1 := Lib.hid hI1; clear hI1)
      | (go_at_call 19; refine (H19.out _ (HFI.out _ hBw3)).mono ?_; rintro e w4 ⟨B2, d2, rfl, hI2, hB4⟩; obtain ⟨hb4, hz4⟩ := HST.out _ _ _ hb3 hz3 hB4; obtain ⟨c40, c41, c42, hBw4⟩ := HCP.out w4 hb4; have HI2 := Lib.hid hI2; clear hI2; have HI1b := Lib.hid ((HI1.out.below hB4).more hB4.size))
      | (go_at_call 20; refine (H20.out _ _ _ _ _ HI1b.out HI2.out).mono ?_; rintro e w5 ⟨rfl, hB5⟩; obtain ⟨hb5, hz5⟩ := HST.out _ _ _ hb4 hz4 hB5; obtain ⟨c50, c51, c52, hBw5⟩ := HCP.out w5 hb5)
      | (go_at_call 10; refine (H10.out _).mono ?_; rintro e w6 ⟨rfl, hB6⟩; obtain ⟨hb6, hz6⟩ := HST.out _ _ _ hb5 hz5 hB6; obtain ⟨c60, c61, c62, hBw6⟩ := HCP.out w6 hb6)
      | fail)
    refine bodyPost_ret (v := .bool true) (by simp [results, Try.results4, go_sem]) rfl ⟨rfl, hBw6⟩
  · go_wp2_with (first
      | (go_at_call 10; refine (H10.out _).mono ?_; rintro e w2 ⟨rfl, hB2⟩)
      | fail)
    refine bodyPost_ret (v := .bool true) (by simp [results, Try.results4, go_sem]) rfl ⟨rfl, hBw1.trans (hB2.mono hBw1.size)⟩
set_option maxRecDepth 100000 in
set_option maxHeartbeats 8000000 in
theorem fewest_great (x : Prk) (A : Option Addr) (c : Nat) (w : World) (hA : Fours w w.heap.size A x.sp) (hx : Prk64 x) (hp : prkB x = true) (h3 : 3 < x.sp.length) :
    Calls Try.prog 4 #[x.val A c] w fun e w' => e = .returned (.bool true) ∧ Below w.heap.size w w' := by
  have HFI : Hid (∀ W, Below w.heap.size w W → Fours W W.heap.size A x.sp) := Lib.hid fun W hW => (hA.below hW).more hW.size
  have hxl := hx.len
  have H9 : Hid (∀ W : World, Fours W W.heap.size A x.sp → Calls Try.prog 9 #[.agg #[.slice A x.sp.length c, I x.alo, I x.ahi]] W fun e w' => ∃ b : Bool, e = .returned (.bool b) ∧ Below W.heap.size W w') := Lib.hid fun W h => busy9 x A c W h hx
  have H10 : Hid (∀ W : World, Calls Try.prog 10 #[] W fun e w' => e = .returned (.bool true) ∧ Below W.heap.size W w') := Lib.hid awake10
  have HFL : Hid ((fewR x).1.length ≤ 9223372036854775807) := Lib.hid (fewR_len x)
  have H18 : Hid (∀ W : World, Fours W W.heap.size A x.sp → Calls Try.prog 18 #[.agg #[.slice A x.sp.length c, I x.alo, I x.ahi]] W fun e w' => ∃ (B : Option Addr) (d : Nat), e = .returned (.tuple #[.slice B (fewR x).1.length d, I (fewR x).2]) ∧ Ints w' w'.heap.size B (fewR x).1 ∧ Below W.heap.size W w') := Lib.hid fun W h => fewest18 x A c W h hxl
  have H19 : Hid (∀ W : World, Fours W W.heap.size A x.sp → Calls Try.prog 19 #[.agg #[.slice A x.sp.length c, I x.alo, I x.ahi]] W fun e w' => ∃ (B : Option Addr) (d : Nat), e = .returned (.tuple #[.slice B (fewR x).1.length d, I (fewR x).2]) ∧ Ints w' w'.heap.size B (fewR x).1 ∧ Below W.heap.size W w') := Lib.hid fun W h => doc19 x A c W h hxl
  have H20 : Hid (∀ (W : World) (B C : Option Addr) (d f : Nat), Ints W W.heap.size B (fewR x).1 → Ints W W.heap.size C (fewR x).1 → Calls Try.prog 20 #[.slice B (fewR x).1.length d, .slice C (fewR x).1.length f] W fun e w' => e = .returned (.bool true) ∧ Below W.heap.size W w') := Lib.hid fun W B C d f h1 h2 => by
    have := ints20 B C d f (fewR x).1 (fewR x).1 W h1 h2 HFL.out HFL.out
    simpa using this
  generalize (fewR x).1 = fl at *
  generalize (fewR x).2 = fe at *
  have H17 : Hid (∀ W : World, Fours W W.heap.size A x.sp → Calls Try.prog 17 #[.agg #[.slice A x.sp.length c, I x.alo, I x.ahi]] W fun e w' => e = .returned (.bool true) ∧ Below W.heap.size W w') := Lib.hid fun W h => by
    have := park17 x A c W h hxl
    rwa [hp] at this
  have hn6 : x.sp.length ≤ 6 := (prkB_iff.1 hp).n6
  have H11 : Hid (∀ W : World, Fours W W.heap.size A x.sp → Calls Try.prog 11 #[.agg #[.slice A x.sp.length c, I x.alo, I x.ahi], I 0] W fun e w' => e = .returned (.tuple #[I 0, I 0]) ∧ Below W.heap.size W w') := Lib.hid fun W h => by
    have := need11 x A c 0 W h hxl
    rwa [needR_zero hp] at this
  obtain ⟨N, hN, hNI, hN1, hN2⟩ := pow_nat hn6
  have H12 : Hid (∀ W : World, Fours W W.heap.size A x.sp → Calls Try.prog 12 #[.agg #[.slice A x.sp.length c, I x.alo, I x.ahi], I ((N : Int) - 1)] W fun e w' => e = .returned (.tuple #[I (needV x (2 ^ x.n - 1)), I 0]) ∧ Below W.heap.size W w') := Lib.hid fun W h => by
    have := need12 x A c ((2 : Int) ^ x.n - 1) W h hxl
    rw [needR_all hp] at this
    rwa [show (2 : Int) ^ x.n = (N : Int) from hNI] at this
  generalize needV x (2 ^ x.n - 1) = nv at *
  have HN := Lib.hid hN
  clear hp hN hNI
  clear hA hx
  simp only [Prk.val]
  generalize x.alo = al at *
  generalize x.ahi = ah at *
  have HW : Hid (Below w.heap.size w (w.alloc (.cells #[.slice A x.sp.length c, I al, I ah] 26))) := Lib.hid (below1 _ _)
  have HCP : Hid (∀ W, Below (w.heap.size + 1) (w.alloc (.cells #[.slice A x.sp.length c, I al, I ah] 26)) W → W.cell? ⟨w.heap.size, 0, none⟩ = some (.slice A x.sp.length c) ∧ W.cell? ⟨w.heap.size, 1, none⟩ = some (I al) ∧ W.cell? ⟨w.heap.size, 2, none⟩ = some (I ah) ∧ Below w.heap.size w W) := Lib.hid fun W hW =>
    ⟨(hW.cell (p := ⟨_, _, none⟩) (by simp)).trans (by simp [go_sem]), (hW.cell (p := ⟨_, _, none⟩) (by simp)).trans (by simp [go_sem]), (hW.cell (p := ⟨_, _, none⟩) (by simp)).trans (by simp [go_sem]), (below1 w _).trans (hW.mono (by omega))⟩
  have HST : Hid (∀ V W X : World, Below (w.heap.size + 1) V W → w.heap.size + 1 ≤ W.heap.size → Below W.heap.size W X → Below (w.heap.size + 1) V X ∧ w.heap.size + 1 ≤ X.heap.size) := Lib.hid fun V W X h1 h2 h3 => ⟨h1.trans (h3.mono h2), by have := h3.size; omega⟩
  have hsz : (w.alloc (.cells #[.slice A x.sp.length c, I al, I ah] 26)).heap.size = w.heap.size + 1 := by simp
  go_enter Try.func4, Try.ntmps4
  go_wp2_with (fail)
  refine (H9.out _ (HFI.out _ HW.out)).mono ?_
  rintro e w1 ⟨b, rfl, hB1⟩
  have hb1 : Below (w.heap.size + 1) (w.alloc (.cells #[.slice A x.sp.length c, I al, I ah] 26)) w1 := hB1.mono (by omega)
  have hz1 : w.heap.size + 1 ≤ w1.heap.size := by have := hB1.size; omega
  obtain ⟨q0, q1, q2, hBw1⟩ := HCP.out w1 hb1
  clear hB1
  cases b
  · go_wp2_with (first
      | (go_at_call 17; refine (H17.out _ (HFI.out _ hBw1)).mono ?_; rintro e w2 ⟨rfl, hB2⟩; obtain ⟨hb2, hz2⟩ := HST.out _ _ _ hb1 hz1 hB2; obtain ⟨c20, c21, c22, hBw2⟩ := HCP.out w2 hb2)
      | (go_at_call 11; refine (H11.out _ (HFI.out _ hBw2)).mono ?_; rintro e w3 ⟨rfl, hB3⟩; obtain ⟨hb3, hz3⟩ := HST.out _ _ _ hb2 hz2 hB3; obtain ⟨c30, c31, c32, hBw3⟩ := HCP.out w3 hb3)
      | fail)
    go_loop [5, 6] (fun s5 s6 => ∃ (k P : Nat), k ≤ x.sp.length ∧ s6 = I k ∧ s5 = I P ∧ (1 ≤ P ∧ P ≤ 64) ∧ Hid (P = 2 ^ k)) (fun _ s => x.sp.length - (intOf s).toNat)
    case atStart => exact ⟨0, 1, by omega, rfl, rfl, by omega, Lib.hid rfl⟩
    case round =>
      obtain ⟨k, P, hk, rfl, rfl, hP, HP⟩ := hrel
      by_cases hlt : k < x.sp.length
      · have HP2 : Hid (2 * P = 2 ^ (k + 1)) := Lib.hid (by rw [HP.out, Nat.pow_succ]; omega)
        have hP2 : 2 * P ≤ 64 := by rw [HP2.out]; exact pow_sixC (by omega)
        go_wp2
        go_round
        case rel => exact ⟨k + 1, 2 * P, by omega, by go_num, by go_num, by omega, HP2⟩
        case measure => first | (simp [intOf]; done) | (simp [intOf]; omega)
      · obtain rfl : k = x.sp.length := by omega
        obtain rfl : P = N := HP.out.trans HN.out.symm
        by_cases hv : nv ≤ 12
        · go_wp2_with (first
            | (go_at_call 12; refine (H12.out _ (HFI.out _ hBw3)).mono ?_; rintro e w4 ⟨rfl, hB4⟩; obtain ⟨hb4, hz4⟩ := HST.out _ _ _ hb3 hz3 hB4; obtain ⟨c40, c41, c42, hBw4⟩ := HCP.out w4 hb4)
            | (go_at_call 10; refine (H10.out _).mono ?_; rintro e w5 ⟨rfl, hB5⟩; obtain ⟨hb5, hz5⟩ := HST.out _ _ _ hb4 hz4 hB5; obtain ⟨c50, c51, c52, hBw5⟩ := HCP.out w5 hb5)
            | fail)
          refine bodyPost_ret (v := .bool true) (by simp [results, Try.results4, go_sem]) rfl ⟨rfl, hBw5⟩
        · have hv2 : 12 < nv := by omega
          go_wp2_with (first
            | (go_at_call 12; refine (H12.out _ (HFI.out _ hBw3)).mono ?_; rintro e w4 ⟨rfl, hB4⟩; obtain ⟨hb4, hz4⟩ := HST.out _ _ _ hb3 hz3 hB4; obtain ⟨c40, c41, c42, hBw4⟩ := HCP.out w4 hb4)
            | fail)
          go_wp2_with (first
            | (go_at_call 18; refine (H18.out _ (HFI.out _ hBw4)).mono ?_; rintro e w5 ⟨B1, d1, rfl, hI1, hB5⟩; obtain ⟨hb5, hz5⟩ := HST.out _ _ _ hb4 hz4 hB5; obtain ⟨c50, c51, c52, hBw5⟩ := HCP.out w5 hb5; have HI1 := Lib.hid hI1; clear hI1)
            | (go_at_call 19; refine (H19.out _ (HFI.out _ hBw5)).mono ?_; rintro e w6 ⟨B2, d2, rfl, hI2, hB6⟩; obtain ⟨hb6, hz6⟩ := HST.out _ _ _ hb5 hz5 hB6; obtain ⟨c60, c61, c62, hBw6⟩ := HCP.out w6 hb6; have HI2 := Lib.hid hI2; clear hI2; have HI1b := Lib.hid ((HI1.out.below hB6).more hB6.size))
            | (go_at_call 20; refine (H20.out _ _ _ _ _ HI1b.out HI2.out).mono ?_; rintro e w7 ⟨rfl, hB7⟩; obtain ⟨hb7, hz7⟩ := HST.out _ _ _ hb6 hz6 hB7; obtain ⟨c70, c71, c72, hBw7⟩ := HCP.out w7 hb7)
            | (go_at_call 10; refine (H10.out _).mono ?_; rintro e w8 ⟨rfl, hB8⟩; obtain ⟨hb8, hz8⟩ := HST.out _ _ _ hb7 hz7 hB8; obtain ⟨c80, c81, c82, hBw8⟩ := HCP.out w8 hb8)
            | fail)
          refine bodyPost_ret (v := .bool true) (by simp [results, Try.results4, go_sem]) rfl ⟨rfl, hBw8⟩
  · go_wp2_with (first
      | (go_at_call 10; refine (H10.out _).mono ?_; rintro e w2 ⟨rfl, hB2⟩)
      | fail)
    refine bodyPost_ret (v := .bool true) (by simp [results, Try.results4, go_sem]) rfl ⟨rfl, hBw1.trans (hB2.mono hBw1.size)⟩
theorem fewest_any (x : Prk) (A : Option Addr) (c : Nat) (w : World) (hA : Fours w w.heap.size A x.sp) (hx : Prk64 x) :
    Calls Try.prog 4 #[x.val A c] w fun e w' => e = .returned (.bool true) ∧ Below w.heap.size w w' := by
  cases hp : prkB x
  · exact fewest_false x A c w hA hx hp
  · by_cases h3 : x.sp.length ≤ 3
    · exact fewest_small x A c w hA hx hp h3
    · exact fewest_great x A c w hA hx hp (by omega)
end Go.Proofs.Ytfebhofihioaoaa
