/- RangerTrue: the walk. -/
import Derived.Test.YtfebhofihioaoaaS28
import Derived.Test.YtfebhofihioaoaaS29
import Derived.Test.YtfebhofihioaoaaO14
import Derived.Test.YtfebhofihioaoaaS15
import Derived.Test.YtfebhofihioaoaaA10
namespace Go.Proofs.Ytfebhofihioaoaa
set_option linter.unusedVariables false
set_option linter.unusedSimpArgs false
open Go Go.RowKit

theorem holdsR_ok {x : Prk} {l m : List Int} (hx : PrkOk x) (hl : PostsOk x l) (hm : PossL x m) : holdsR x l m = (holdsB x l m, 0) := by
  unfold holdsR
  rw [prkB_iff.2 hx, postsB_iff.2 hl, possB_iff.2 hm]
  rfl
theorem true_law (x : Prk) (l : List Int) :
    ((prkB x && postsB x l) = false ∧ ∃ e, lackR x l = (0, 0, e) ∧ (e = 1 ∨ e = 2)) ∨
    (PrkOk x ∧ PostsOk x l ∧ lackR x l = (0, 0, 4) ∧ ∀ m, PossL x m → holdsR x l m = (true, 0)) ∨
    (PrkOk x ∧ PostsOk x l ∧ ∃ (S : Nat) (k : Int), 0 < S ∧ S < 2 ^ x.n ∧ 0 < k ∧ k = needV x S - forX x (crF l) S ∧ lackR x l = ((S : Int), k, 0) ∧ (∀ m, PossL x m → ∃ b, holdsR x l m = (b, 0)) ∧ ∀ m, PossL x m → needC x S (crF m) = needV x S → holdsR x l m = (false, 0)) := by
  cases hp : prkB x
  · exact .inl ⟨rfl, 1, by unfold lackR lackOf; rw [hp]; rfl, .inl rfl⟩
  · cases hq : postsB x l
    · exact .inl ⟨rfl, 2, by unfold lackR lackOf; rw [hp, hq]; rfl, .inr rfl⟩
    · have hx := prkB_iff.1 hp
      have hl := postsB_iff.1 hq
      have hd : ∀ c, lackTo (needV x) (forX x (crF l)) (2 ^ x.n) = c → lackR x l = if c.1 = 0 then (0, 0, 4) else ((c.1 : Int), c.2, 0) := fun c h => by
        unfold lackR lackOf
        rw [hp, hq, h]
        rfl
      rcases lackTo_spec (needV x) (forX x (crF l)) (by rw [needV_zero (allNeed hx), forX_zero]) (2 ^ x.n) with ⟨h1, _, h2⟩ | ⟨h1, h2, h3, h4⟩
      · refine .inr (.inl ⟨hx, hl, by rw [hd _ rfl, if_pos h1], fun m hm => ?_⟩)
        rw [holdsR_ok hx hl hm, holds_yes fun S hS => Int.le_trans ((need_is (allNeed hx) S).2 (crF m) ⟨hm.2.1, hm.2.2.2⟩) (h2 S hS)]
      · refine .inr (.inr ⟨hx, hl, _, _, h1, h2, h3, h4, by rw [hd _ rfl, if_neg (by omega)], fun m hm => ⟨_, holdsR_ok hx hl hm⟩, fun m hm he => ?_⟩)
        rw [holdsR_ok hx hl hm, holds_no h2 (by rw [he]; omega)]
theorem pow_six' {i : Nat} (h : i ≤ 6) : 2 ^ i ≤ 64 := by
  have := Nat.pow_le_pow_right (show 0 < 2 by omega) h
  simpa using this
theorem forX_nn {x : Prk} {p : Nat → Int} {S : Nat} (_ : PrkOk x) (h : ∀ i, i < x.n → 0 ≤ p i) : 0 ≤ forX x p S := by
  unfold forX forN
  refine sumN_nonneg fun i hi => ?_
  split
  · exact h i hi
  · exact Int.le_refl _
theorem needR_okT {x : Prk} (hp : prkB x = true) {S : Nat} (hS : S < 2 ^ x.n) : needR x S = (needV x S, 0) := by
  have h : ((2 ^ x.n : Nat) : Int) = (2 : Int) ^ x.n := by simp
  unfold needR
  rw [hp, if_pos rfl, if_pos (inB_true.2 ⟨by omega, by rw [← h]; omega⟩)]
  rfl
set_option maxRecDepth 100000 in
set_option maxHeartbeats 8000000 in
theorem true_bad1 (x : Prk) (A C B : Option Addr) (c f d : Nat) (l ys : List Int) (w : World) (hA : Fours w w.heap.size A x.sp) (hx : Prk64 x) (hl : Ints w w.heap.size C l) (hll : l.length ≤ 9223372036854775807) (hy : U32W w w.heap.size B ys) (hyl : ys.length ≤ 9223372036854775807) (hyb : ∀ y ∈ ys, 0 ≤ y ∧ y ≤ 4294967295) (hp : prkB x = false) (hq : postsB x l = true) (e0 : Int) (hr : lackR x l = (0, 0, e0)) (he : e0 = 1 ∨ e0 = 2) :
    Calls Try.prog 5 #[x.val A c, .slice C l.length f, .slice B ys.length d] w fun e w' => e = .returned (.bool true) ∧ Below w.heap.size w w' := by
  have HFI : Hid (∀ W, Below w.heap.size w W → Fours W W.heap.size A x.sp ∧ Ints W W.heap.size C l ∧ U32W W W.heap.size B ys) := Lib.hid fun W hW => ⟨(hA.below hW).more hW.size, (hl.below hW).more hW.size, (hy.below hW).more hW.size⟩
  have hxl := hx.len
  have H9 : Hid (∀ W : World, Fours W W.heap.size A x.sp → Calls Try.prog 9 #[.agg #[.slice A x.sp.length c, I x.alo, I x.ahi]] W fun e w' => ∃ b : Bool, e = .returned (.bool b) ∧ Below W.heap.size W w') := Lib.hid fun W h => busy9 x A c W h hx
  have H10 : Hid (∀ W : World, Calls Try.prog 10 #[] W fun e w' => e = .returned (.bool true) ∧ Below W.heap.size W w') := Lib.hid awake10
  have HYB := Lib.hid hyb
  have H17 : Hid (∀ W : World, Fours W W.heap.size A x.sp → Calls Try.prog 17 #[.agg #[.slice A x.sp.length c, I x.alo, I x.ahi]] W fun e w' => e = .returned (.bool false) ∧ Below W.heap.size W w') := Lib.hid fun W h => by
    have := park17 x A c W h hxl
    rwa [hp] at this
  have H21 : Hid (∀ W : World, Ints W W.heap.size C l → Calls Try.prog 21 #[.agg #[.slice A x.sp.length c, I x.alo, I x.ahi], .slice C l.length f] W fun e w' => e = .returned (.bool true) ∧ Below W.heap.size W w') := Lib.hid fun W h => by
    have := posts21 x A C c f l W h hll hxl
    rwa [hq] at this
  have H15 : Hid (∀ W : World, Fours W W.heap.size A x.sp → Ints W W.heap.size C l → Calls Try.prog 15 #[.agg #[.slice A x.sp.length c, I x.alo, I x.ahi], .slice C l.length f] W fun e w' => e = .returned (.tuple #[I 0, I 0, I e0]) ∧ Below W.heap.size W w') := Lib.hid fun W h h1 => by
    have := lacking15 x A C c f l W h h1 hxl hll
    rwa [hr] at this
  clear hp hq hr
  clear hA hx hl hy hyb
  simp only [Prk.val]
  generalize x.alo = al at *
  generalize x.ahi = ah at *
  have HW : Hid (Below w.heap.size w (w.alloc (.cells #[.slice A x.sp.length c, I al, I ah] 26))) := Lib.hid (below1 _ _)
  have HCP : Hid (∀ W, Below (w.heap.size + 1) (w.alloc (.cells #[.slice A x.sp.length c, I al, I ah] 26)) W → W.cell? ⟨w.heap.size, 0, none⟩ = some (.slice A x.sp.length c) ∧ W.cell? ⟨w.heap.size, 1, none⟩ = some (I al) ∧ W.cell? ⟨w.heap.size, 2, none⟩ = some (I ah) ∧ Below w.heap.size w W) := Lib.hid fun W hW =>
    ⟨(hW.cell (p := ⟨_, _, none⟩) (by simp)).trans (by simp [go_sem]), (hW.cell (p := ⟨_, _, none⟩) (by simp)).trans (by simp [go_sem]), (hW.cell (p := ⟨_, _, none⟩) (by simp)).trans (by simp [go_sem]), (below1 w _).trans (hW.mono (by omega))⟩
  have HST : Hid (∀ V W X : World, Below (w.heap.size + 1) V W → w.heap.size + 1 ≤ W.heap.size → Below W.heap.size W X → Below (w.heap.size + 1) V X ∧ w.heap.size + 1 ≤ X.heap.size) := Lib.hid fun V W X h1 h2 h3 => ⟨h1.trans (h3.mono h2), by have := h3.size; omega⟩
  have hsz : (w.alloc (.cells #[.slice A x.sp.length c, I al, I ah] 26)).heap.size = w.heap.size + 1 := by simp
  go_enter Try.func5, Try.ntmps5
  go_wp2_with (fail)
  refine (H9.out _ (HFI.out _ HW.out).1).mono ?_
  rintro e w1 ⟨b, rfl, hB1⟩
  have hb1 : Below (w.heap.size + 1) (w.alloc (.cells #[.slice A x.sp.length c, I al, I ah] 26)) w1 := hB1.mono (by omega)
  have hz1 : w.heap.size + 1 ≤ w1.heap.size := by have := hB1.size; omega
  obtain ⟨q0, q1, q2, hBw1⟩ := HCP.out w1 hb1
  clear hB1
  cases b
  · by_cases hlb : 10 < l.length
    · have hlbd : decide ((10 : Int) < (l.length : Int)) = true := decide_eq_true (by omega)
      go_wp2_with (first
        | (go_at_call 10; refine (H10.out _).mono ?_; rintro e w2 ⟨rfl, hB2⟩)
        | fail)
      refine bodyPost_ret (v := .bool true) (by simp [results, Try.results5, go_sem]) rfl ⟨rfl, hBw1.trans (hB2.mono hBw1.size)⟩
    · have hlbd : decide ((10 : Int) < (l.length : Int)) = false := decide_eq_false (by omega)
      rcases Nat.eq_zero_or_pos ys.length with hy0 | hy0
      · go_wp2_with (first
          | (go_at_call 10; refine (H10.out _).mono ?_; rintro e w2 ⟨rfl, hB2⟩)
          | fail)
        refine bodyPost_ret (v := .bool true) (by simp [results, Try.results5, go_sem]) rfl ⟨rfl, hBw1.trans (hB2.mono hBw1.size)⟩
      · rcases he with rfl | rfl
        all_goals (
          go_wp2_with (first
            | (go_at_call 15; refine (H15.out _ (HFI.out _ hBw1).1 (HFI.out _ hBw1).2.1).mono ?_; rintro e w2 ⟨rfl, hB2⟩; obtain ⟨hb2, hz2⟩ := HST.out _ _ _ hb1 hz1 hB2; obtain ⟨c20, c21, c22, hBw2⟩ := HCP.out w2 hb2)
            | (go_at_call 17; refine (H17.out _ (HFI.out _ hBw2).1).mono ?_; rintro e w3 ⟨rfl, hB3⟩; obtain ⟨hb3, hz3⟩ := HST.out _ _ _ hb2 hz2 hB3; obtain ⟨c30, c31, c32, hBw3⟩ := HCP.out w3 hb3)
            | (go_at_call 10; refine (H10.out _).mono ?_; rintro e w4 ⟨rfl, hB4⟩; obtain ⟨hb4, hz4⟩ := HST.out _ _ _ hb3 hz3 hB4; obtain ⟨c40, c41, c42, hBw4⟩ := HCP.out w4 hb4)
            | fail)
          refine bodyPost_ret (v := .bool true) (by simp [results, Try.results5, go_sem]) rfl ⟨rfl, hBw4⟩)
  · go_wp2_with (first
      | (go_at_call 10; refine (H10.out _).mono ?_; rintro e w2 ⟨rfl, hB2⟩)
      | fail)
    refine bodyPost_ret (v := .bool true) (by simp [results, Try.results5, go_sem]) rfl ⟨rfl, hBw1.trans (hB2.mono hBw1.size)⟩
set_option maxRecDepth 100000 in
set_option maxHeartbeats 8000000 in
theorem true_bad2 (x : Prk) (A C B : Option Addr) (c f d : Nat) (l ys : List Int) (w : World) (hA : Fours w w.heap.size A x.sp) (hx : Prk64 x) (hl : Ints w w.heap.size C l) (hll : l.length ≤ 9223372036854775807) (hy : U32W w w.heap.size B ys) (hyl : ys.length ≤ 9223372036854775807) (hyb : ∀ y ∈ ys, 0 ≤ y ∧ y ≤ 4294967295) (hp : prkB x = false) (hq : postsB x l = false) (e0 : Int) (hr : lackR x l = (0, 0, e0)) (he : e0 = 1 ∨ e0 = 2) :
    Calls Try.prog 5 #[x.val A c, .slice C l.length f, .slice B ys.length d] w fun e w' => e = .returned (.bool true) ∧ Below w.heap.size w w' := by
  have HFI : Hid (∀ W, Below w.heap.size w W → Fours W W.heap.size A x.sp ∧ Ints W W.heap.size C l ∧ U32W W W.heap.size B ys) := Lib.hid fun W hW => ⟨(hA.below hW).more hW.size, (hl.below hW).more hW.size, (hy.below hW).more hW.size⟩
  have hxl := hx.len
  have H9 : Hid (∀ W : World, Fours W W.heap.size A x.sp → Calls Try.prog 9 #[.agg #[.slice A x.sp.length c, I x.alo, I x.ahi]] W fun e w' => ∃ b : Bool, e = .returned (.bool b) ∧ Below W.heap.size W w') := Lib.hid fun W h => busy9 x A c W h hx
  have H10 : Hid (∀ W : World, Calls Try.prog 10 #[] W fun e w' => e = .returned (.bool true) ∧ Below W.heap.size W w') := Lib.hid awake10
  have HYB := Lib.hid hyb
  have H17 : Hid (∀ W : World, Fours W W.heap.size A x.sp → Calls Try.prog 17 #[.agg #[.slice A x.sp.length c, I x.alo, I x.ahi]] W fun e w' => e = .returned (.bool false) ∧ Below W.heap.size W w') := Lib.hid fun W h => by
    have := park17 x A c W h hxl
    rwa [hp] at this
  have H21 : Hid (∀ W : World, Ints W W.heap.size C l → Calls Try.prog 21 #[.agg #[.slice A x.sp.length c, I x.alo, I x.ahi], .slice C l.length f] W fun e w' => e = .returned (.bool false) ∧ Below W.heap.size W w') := Lib.hid fun W h => by
    have := posts21 x A C c f l W h hll hxl
    rwa [hq] at this
  have H15 : Hid (∀ W : World, Fours W W.heap.size A x.sp → Ints W W.heap.size C l → Calls Try.prog 15 #[.agg #[.slice A x.sp.length c, I x.alo, I x.ahi], .slice C l.length f] W fun e w' => e = .returned (.tuple #[I 0, I 0, I e0]) ∧ Below W.heap.size W w') := Lib.hid fun W h h1 => by
    have := lacking15 x A C c f l W h h1 hxl hll
    rwa [hr] at this
  clear hp hq hr
  clear hA hx hl hy hyb
  simp only [Prk.val]
  generalize x.alo = al at *
  generalize x.ahi = ah at *
  have HW : Hid (Below w.heap.size w (w.alloc (.cells #[.slice A x.sp.length c, I al, I ah] 26))) := Lib.hid (below1 _ _)
  have HCP : Hid (∀ W, Below (w.heap.size + 1) (w.alloc (.cells #[.slice A x.sp.length c, I al, I ah] 26)) W → W.cell? ⟨w.heap.size, 0, none⟩ = some (.slice A x.sp.length c) ∧ W.cell? ⟨w.heap.size, 1, none⟩ = some (I al) ∧ W.cell? ⟨w.heap.size, 2, none⟩ = some (I ah) ∧ Below w.heap.size w W) := Lib.hid fun W hW =>
    ⟨(hW.cell (p := ⟨_, _, none⟩) (by simp)).trans (by simp [go_sem]), (hW.cell (p := ⟨_, _, none⟩) (by simp)).trans (by simp [go_sem]), (hW.cell (p := ⟨_, _, none⟩) (by simp)).trans (by simp [go_sem]), (below1 w _).trans (hW.mono (by omega))⟩
  have HST : Hid (∀ V W X : World, Below (w.heap.size + 1) V W → w.heap.size + 1 ≤ W.heap.size → Below W.heap.size W X → Below (w.heap.size + 1) V X ∧ w.heap.size + 1 ≤ X.heap.size) := Lib.hid fun V W X h1 h2 h3 => ⟨h1.trans (h3.mono h2), by have := h3.size; omega⟩
  have hsz : (w.alloc (.cells #[.slice A x.sp.length c, I al, I ah] 26)).heap.size = w.heap.size + 1 := by simp
  go_enter Try.func5, Try.ntmps5
  go_wp2_with (fail)
  refine (H9.out _ (HFI.out _ HW.out).1).mono ?_
  rintro e w1 ⟨b, rfl, hB1⟩
  have hb1 : Below (w.heap.size + 1) (w.alloc (.cells #[.slice A x.sp.length c, I al, I ah] 26)) w1 := hB1.mono (by omega)
  have hz1 : w.heap.size + 1 ≤ w1.heap.size := by have := hB1.size; omega
  obtain ⟨q0, q1, q2, hBw1⟩ := HCP.out w1 hb1
  clear hB1
  cases b
  · by_cases hlb : 10 < l.length
    · have hlbd : decide ((10 : Int) < (l.length : Int)) = true := decide_eq_true (by omega)
      go_wp2_with (first
        | (go_at_call 10; refine (H10.out _).mono ?_; rintro e w2 ⟨rfl, hB2⟩)
        | fail)
      refine bodyPost_ret (v := .bool true) (by simp [results, Try.results5, go_sem]) rfl ⟨rfl, hBw1.trans (hB2.mono hBw1.size)⟩
    · have hlbd : decide ((10 : Int) < (l.length : Int)) = false := decide_eq_false (by omega)
      rcases Nat.eq_zero_or_pos ys.length with hy0 | hy0
      · go_wp2_with (first
          | (go_at_call 10; refine (H10.out _).mono ?_; rintro e w2 ⟨rfl, hB2⟩)
          | fail)
        refine bodyPost_ret (v := .bool true) (by simp [results, Try.results5, go_sem]) rfl ⟨rfl, hBw1.trans (hB2.mono hBw1.size)⟩
      · rcases he with rfl | rfl
        all_goals (
          go_wp2_with (first
            | (go_at_call 15; refine (H15.out _ (HFI.out _ hBw1).1 (HFI.out _ hBw1).2.1).mono ?_; rintro e w2 ⟨rfl, hB2⟩; obtain ⟨hb2, hz2⟩ := HST.out _ _ _ hb1 hz1 hB2; obtain ⟨c20, c21, c22, hBw2⟩ := HCP.out w2 hb2)
            | (go_at_call 17; refine (H17.out _ (HFI.out _ hBw2).1).mono ?_; rintro e w3 ⟨rfl, hB3⟩; obtain ⟨hb3, hz3⟩ := HST.out _ _ _ hb2 hz2 hB3; obtain ⟨c30, c31, c32, hBw3⟩ := HCP.out w3 hb3)
            | (go_at_call 10; refine (H10.out _).mono ?_; rintro e w4 ⟨rfl, hB4⟩; obtain ⟨hb4, hz4⟩ := HST.out _ _ _ hb3 hz3 hB4; obtain ⟨c40, c41, c42, hBw4⟩ := HCP.out w4 hb4)
            | fail)
          refine bodyPost_ret (v := .bool true) (by simp [results, Try.results5, go_sem]) rfl ⟨rfl, hBw4⟩)
  · go_wp2_with (first
      | (go_at_call 10; refine (H10.out _).mono ?_; rintro e w2 ⟨rfl, hB2⟩)
      | fail)
    refine bodyPost_ret (v := .bool true) (by simp [results, Try.results5, go_sem]) rfl ⟨rfl, hBw1.trans (hB2.mono hBw1.size)⟩
set_option maxRecDepth 100000 in
set_option maxHeartbeats 8000000 in
theorem true_bad3 (x : Prk) (A C B : Option Addr) (c f d : Nat) (l ys : List Int) (w : World) (hA : Fours w w.heap.size A x.sp) (hx : Prk64 x) (hl : Ints w w.heap.size C l) (hll : l.length ≤ 9223372036854775807) (hy : U32W w w.heap.size B ys) (hyl : ys.length ≤ 9223372036854775807) (hyb : ∀ y ∈ ys, 0 ≤ y ∧ y ≤ 4294967295) (hp : prkB x = true) (hq : postsB x l = false) (e0 : Int) (hr : lackR x l = (0, 0, e0)) (he : e0 = 1 ∨ e0 = 2) :
    Calls Try.prog 5 #[x.val A c, .slice C l.length f, .slice B ys.length d] w fun e w' => e = .returned (.bool true) ∧ Below w.heap.size w w' := by
  have HFI : Hid (∀ W, Below w.heap.size w W → Fours W W.heap.size A x.sp ∧ Ints W W.heap.size C l ∧ U32W W W.heap.size B ys) := Lib.hid fun W hW => ⟨(hA.below hW).more hW.size, (hl.below hW).more hW.size, (hy.below hW).more hW.size⟩
  have hxl := hx.len
  have H9 : Hid (∀ W : World, Fours W W.heap.size A x.sp → Calls Try.prog 9 #[.agg #[.slice A x.sp.length c, I x.alo, I x.ahi]] W fun e w' => ∃ b : Bool, e = .returned (.bool b) ∧ Below W.heap.size W w') := Lib.hid fun W h => busy9 x A c W h hx
  have H10 : Hid (∀ W : World, Calls Try.prog 10 #[] W fun e w' => e = .returned (.bool true) ∧ Below W.heap.size W w') := Lib.hid awake10
  have HYB := Lib.hid hyb
  have H17 : Hid (∀ W : World, Fours W W.heap.size A x.sp → Calls Try.prog 17 #[.agg #[.slice A x.sp.length c, I x.alo, I x.ahi]] W fun e w' => e = .returned (.bool true) ∧ Below W.heap.size W w') := Lib.hid fun W h => by
    have := park17 x A c W h hxl
    rwa [hp] at this
  have H21 : Hid (∀ W : World, Ints W W.heap.size C l → Calls Try.prog 21 #[.agg #[.slice A x.sp.length c, I x.alo, I x.ahi], .slice C l.length f] W fun e w' => e = .returned (.bool false) ∧ Below W.heap.size W w') := Lib.hid fun W h => by
    have := posts21 x A C c f l W h hll hxl
    rwa [hq] at this
  have H15 : Hid (∀ W : World, Fours W W.heap.size A x.sp → Ints W W.heap.size C l → Calls Try.prog 15 #[.agg #[.slice A x.sp.length c, I x.alo, I x.ahi], .slice C l.length f] W fun e w' => e = .returned (.tuple #[I 0, I 0, I e0]) ∧ Below W.heap.size W w') := Lib.hid fun W h h1 => by
    have := lacking15 x A C c f l W h h1 hxl hll
    rwa [hr] at this
  clear hp hq hr
  clear hA hx hl hy hyb
  simp only [Prk.val]
  generalize x.alo = al at *
  generalize x.ahi = ah at *
  have HW : Hid (Below w.heap.size w (w.alloc (.cells #[.slice A x.sp.length c, I al, I ah] 26))) := Lib.hid (below1 _ _)
  have HCP : Hid (∀ W, Below (w.heap.size + 1) (w.alloc (.cells #[.slice A x.sp.length c, I al, I ah] 26)) W → W.cell? ⟨w.heap.size, 0, none⟩ = some (.slice A x.sp.length c) ∧ W.cell? ⟨w.heap.size, 1, none⟩ = some (I al) ∧ W.cell? ⟨w.heap.size, 2, none⟩ = some (I ah) ∧ Below w.heap.size w W) := Lib.hid fun W hW =>
    ⟨(hW.cell (p := ⟨_, _, none⟩) (by simp)).trans (by simp [go_sem]), (hW.cell (p := ⟨_, _, none⟩) (by simp)).trans (by simp [go_sem]), (hW.cell (p := ⟨_, _, none⟩) (by simp)).trans (by simp [go_sem]), (below1 w _).trans (hW.mono (by omega))⟩
  have HST : Hid (∀ V W X : World, Below (w.heap.size + 1) V W → w.heap.size + 1 ≤ W.heap.size → Below W.heap.size W X → Below (w.heap.size + 1) V X ∧ w.heap.size + 1 ≤ X.heap.size) := Lib.hid fun V W X h1 h2 h3 => ⟨h1.trans (h3.mono h2), by have := h3.size; omega⟩
  have hsz : (w.alloc (.cells #[.slice A x.sp.length c, I al, I ah] 26)).heap.size = w.heap.size + 1 := by simp
  go_enter Try.func5, Try.ntmps5
  go_wp2_with (fail)
  refine (H9.out _ (HFI.out _ HW.out).1).mono ?_
  rintro e w1 ⟨b, rfl, hB1⟩
  have hb1 : Below (w.heap.size + 1) (w.alloc (.cells #[.slice A x.sp.length c, I al, I ah] 26)) w1 := hB1.mono (by omega)
  have hz1 : w.heap.size + 1 ≤ w1.heap.size := by have := hB1.size; omega
  obtain ⟨q0, q1, q2, hBw1⟩ := HCP.out w1 hb1
  clear hB1
  cases b
  · by_cases hlb : 10 < l.length
    · have hlbd : decide ((10 : Int) < (l.length : Int)) = true := decide_eq_true (by omega)
      go_wp2_with (first
        | (go_at_call 10; refine (H10.out _).mono ?_; rintro e w2 ⟨rfl, hB2⟩)
        | fail)
      refine bodyPost_ret (v := .bool true) (by simp [results, Try.results5, go_sem]) rfl ⟨rfl, hBw1.trans (hB2.mono hBw1.size)⟩
    · have hlbd : decide ((10 : Int) < (l.length : Int)) = false := decide_eq_false (by omega)
      rcases Nat.eq_zero_or_pos ys.length with hy0 | hy0
      · go_wp2_with (first
          | (go_at_call 10; refine (H10.out _).mono ?_; rintro e w2 ⟨rfl, hB2⟩)
          | fail)
        refine bodyPost_ret (v := .bool true) (by simp [results, Try.results5, go_sem]) rfl ⟨rfl, hBw1.trans (hB2.mono hBw1.size)⟩
      · rcases he with rfl | rfl
        all_goals (
          go_wp2_with (first
            | (go_at_call 15; refine (H15.out _ (HFI.out _ hBw1).1 (HFI.out _ hBw1).2.1).mono ?_; rintro e w2 ⟨rfl, hB2⟩; obtain ⟨hb2, hz2⟩ := HST.out _ _ _ hb1 hz1 hB2; obtain ⟨c20, c21, c22, hBw2⟩ := HCP.out w2 hb2)
            | (go_at_call 17; refine (H17.out _ (HFI.out _ hBw2).1).mono ?_; rintro e w3 ⟨rfl, hB3⟩; obtain ⟨hb3, hz3⟩ := HST.out _ _ _ hb2 hz2 hB3; obtain ⟨c30, c31, c32, hBw3⟩ := HCP.out w3 hb3)
            | (go_at_call 21; refine (H21.out _ (HFI.out _ hBw3).2.1).mono ?_; rintro e w4 ⟨rfl, hB4⟩; obtain ⟨hb4, hz4⟩ := HST.out _ _ _ hb3 hz3 hB4; obtain ⟨c40, c41, c42, hBw4⟩ := HCP.out w4 hb4)
            | (go_at_call 10; refine (H10.out _).mono ?_; rintro e w5 ⟨rfl, hB5⟩; obtain ⟨hb5, hz5⟩ := HST.out _ _ _ hb4 hz4 hB5; obtain ⟨c50, c51, c52, hBw5⟩ := HCP.out w5 hb5)
            | fail)
          refine bodyPost_ret (v := .bool true) (by simp [results, Try.results5, go_sem]) rfl ⟨rfl, hBw5⟩)
  · go_wp2_with (first
      | (go_at_call 10; refine (H10.out _).mono ?_; rintro e w2 ⟨rfl, hB2⟩)
      | fail)
    refine bodyPost_ret (v := .bool true) (by simp [results, Try.results5, go_sem]) rfl ⟨rfl, hBw1.trans (hB2.mono hBw1.size)⟩
set_option maxRecDepth 100000 in
set_option maxHeartbeats 8000000 in
theorem true_none (x : Prk) (A C B : Option Addr) (c f d : Nat) (l ys : List Int) (w : World) (hA : Fours w w.heap.size A x.sp) (hx : Prk64 x) (hl : Ints w w.heap.size C l) (hll : l.length ≤ 9223372036854775807) (hy : U32W w w.heap.size B ys) (hyl : ys.length ≤ 9223372036854775807) (hyb : ∀ y ∈ ys, 0 ≤ y ∧ y ≤ 4294967295) (hok : PrkOk x) (hp : prkB x = true) (hq : postsB x l = true) (hr : lackR x l = (0, 0, 4)) (hm : ∀ m, PossL x m → holdsR x l m = (true, 0)) :
    Calls Try.prog 5 #[x.val A c, .slice C l.length f, .slice B ys.length d] w fun e w' => e = .returned (.bool true) ∧ Below w.heap.size w w' := by
  have HFI : Hid (∀ W, Below w.heap.size w W → Fours W W.heap.size A x.sp ∧ Ints W W.heap.size C l ∧ U32W W W.heap.size B ys) := Lib.hid fun W hW => ⟨(hA.below hW).more hW.size, (hl.below hW).more hW.size, (hy.below hW).more hW.size⟩
  have hxl := hx.len
  have H9 : Hid (∀ W : World, Fours W W.heap.size A x.sp → Calls Try.prog 9 #[.agg #[.slice A x.sp.length c, I x.alo, I x.ahi]] W fun e w' => ∃ b : Bool, e = .returned (.bool b) ∧ Below W.heap.size W w') := Lib.hid fun W h => busy9 x A c W h hx
  have H10 : Hid (∀ W : World, Calls Try.prog 10 #[] W fun e w' => e = .returned (.bool true) ∧ Below W.heap.size W w') := Lib.hid awake10
  have HYB := Lib.hid hyb
  have H17 : Hid (∀ W : World, Fours W W.heap.size A x.sp → Calls Try.prog 17 #[.agg #[.slice A x.sp.length c, I x.alo, I x.ahi]] W fun e w' => e = .returned (.bool true) ∧ Below W.heap.size W w') := Lib.hid fun W h => by
    have := park17 x A c W h hxl
    rwa [hp] at this
  have H21 : Hid (∀ W : World, Ints W W.heap.size C l → Calls Try.prog 21 #[.agg #[.slice A x.sp.length c, I x.alo, I x.ahi], .slice C l.length f] W fun e w' => e = .returned (.bool true) ∧ Below W.heap.size W w') := Lib.hid fun W h => by
    have := posts21 x A C c f l W h hll hxl
    rwa [hq] at this
  have H15 : Hid (∀ W : World, Fours W W.heap.size A x.sp → Ints W W.heap.size C l → Calls Try.prog 15 #[.agg #[.slice A x.sp.length c, I x.alo, I x.ahi], .slice C l.length f] W fun e w' => e = .returned (.tuple #[I 0, I 0, I 4]) ∧ Below W.heap.size W w') := Lib.hid fun W h h1 => by
    have := lacking15 x A C c f l W h h1 hxl hll
    rwa [hr] at this
  have H22 : Hid (∀ W : World, Fours W W.heap.size A x.sp → U32W W W.heap.size B ys → 0 < ys.length → Calls Try.prog 22 #[.agg #[.slice A x.sp.length c, I x.alo, I x.ahi], .slice B ys.length d] W fun e w' => ∃ (D : Option Addr) (g : Nat) (cl : List Int), e = .returned (.slice D x.sp.length g) ∧ Ints w' w'.heap.size D cl ∧ Hid (PossL x cl) ∧ Below W.heap.size W w') := Lib.hid fun W h h1 h2 =>
    (some22 x A B c d ys W hok h h1 h2 hyl hyb).mono fun e w' ⟨D, g, cl, k1, k2, k3, k4, k5⟩ => ⟨D, g, cl, k1, k2, Lib.hid ⟨k3, k4⟩, k5⟩
  have H13 : Hid (∀ (W : World) (D : Option Addr) (g : Nat) (cl : List Int), Fours W W.heap.size A x.sp → Ints W W.heap.size C l → Ints W W.heap.size D cl → PossL x cl → Calls Try.prog 13 #[.agg #[.slice A x.sp.length c, I x.alo, I x.ahi], .slice C l.length f, .slice D x.sp.length g] W fun e w' => e = .returned (.tuple #[.bool true, I 0]) ∧ Below W.heap.size W w') := Lib.hid fun W D g cl h h1 h2 h3 => by
    have hc : cl.length = x.sp.length := h3.1
    have := holds13 x A C D c f g l cl W h h1 h2 hxl hll (by rw [hc]; exact hxl)
    rwa [hm cl h3, hc] at this
  clear hok hp hq hr hm
  clear hA hx hl hy hyb
  simp only [Prk.val]
  generalize x.alo = al at *
  generalize x.ahi = ah at *
  have HW : Hid (Below w.heap.size w (w.alloc (.cells #[.slice A x.sp.length c, I al, I ah] 26))) := Lib.hid (below1 _ _)
  have HCP : Hid (∀ W, Below (w.heap.size + 1) (w.alloc (.cells #[.slice A x.sp.length c, I al, I ah] 26)) W → W.cell? ⟨w.heap.size, 0, none⟩ = some (.slice A x.sp.length c) ∧ W.cell? ⟨w.heap.size, 1, none⟩ = some (I al) ∧ W.cell? ⟨w.heap.size, 2, none⟩ = some (I ah) ∧ Below w.heap.size w W) := Lib.hid fun W hW =>
    ⟨(hW.cell (p := ⟨_, _, none⟩) (by simp)).trans (by simp [go_sem]), (hW.cell (p := ⟨_, _, none⟩) (by simp)).trans (by simp [go_sem]), (hW.cell (p := ⟨_, _, none⟩) (by simp)).trans (by simp [go_sem]), (below1 w _).trans (hW.mono (by omega))⟩
  have HST : Hid (∀ V W X : World, Below (w.heap.size + 1) V W → w.heap.size + 1 ≤ W.heap.size → Below W.heap.size W X → Below (w.heap.size + 1) V X ∧ w.heap.size + 1 ≤ X.heap.size) := Lib.hid fun V W X h1 h2 h3 => ⟨h1.trans (h3.mono h2), by have := h3.size; omega⟩
  have hsz : (w.alloc (.cells #[.slice A x.sp.length c, I al, I ah] 26)).heap.size = w.heap.size + 1 := by simp
  go_enter Try.func5, Try.ntmps5
  go_wp2_with (fail)
  refine (H9.out _ (HFI.out _ HW.out).1).mono ?_
  rintro e w1 ⟨b, rfl, hB1⟩
  have hb1 : Below (w.heap.size + 1) (w.alloc (.cells #[.slice A x.sp.length c, I al, I ah] 26)) w1 := hB1.mono (by omega)
  have hz1 : w.heap.size + 1 ≤ w1.heap.size := by have := hB1.size; omega
  obtain ⟨q0, q1, q2, hBw1⟩ := HCP.out w1 hb1
  clear hB1
  cases b
  · by_cases hlb : 10 < l.length
    · have hlbd : decide ((10 : Int) < (l.length : Int)) = true := decide_eq_true (by omega)
      go_wp2_with (first
        | (go_at_call 10; refine (H10.out _).mono ?_; rintro e w2 ⟨rfl, hB2⟩)
        | fail)
      refine bodyPost_ret (v := .bool true) (by simp [results, Try.results5, go_sem]) rfl ⟨rfl, hBw1.trans (hB2.mono hBw1.size)⟩
    · have hlbd : decide ((10 : Int) < (l.length : Int)) = false := decide_eq_false (by omega)
      rcases Nat.eq_zero_or_pos ys.length with hy0 | hy0
      · go_wp2_with (first
          | (go_at_call 10; refine (H10.out _).mono ?_; rintro e w2 ⟨rfl, hB2⟩)
          | fail)
        refine bodyPost_ret (v := .bool true) (by simp [results, Try.results5, go_sem]) rfl ⟨rfl, hBw1.trans (hB2.mono hBw1.size)⟩
      · go_wp2_with (first
          | (go_at_call 15; refine (H15.out _ (HFI.out _ hBw1).1 (HFI.out _ hBw1).2.1).mono ?_; rintro e w2 ⟨rfl, hB2⟩; obtain ⟨hb2, hz2⟩ := HST.out _ _ _ hb1 hz1 hB2; obtain ⟨c20, c21, c22, hBw2⟩ := HCP.out w2 hb2)
          | (go_at_call 17; refine (H17.out _ (HFI.out _ hBw2).1).mono ?_; rintro e w3 ⟨rfl, hB3⟩; obtain ⟨hb3, hz3⟩ := HST.out _ _ _ hb2 hz2 hB3; obtain ⟨c30, c31, c32, hBw3⟩ := HCP.out w3 hb3)
          | (go_at_call 21; refine (H21.out _ (HFI.out _ hBw3).2.1).mono ?_; rintro e w4 ⟨rfl, hB4⟩; obtain ⟨hb4, hz4⟩ := HST.out _ _ _ hb3 hz3 hB4; obtain ⟨c40, c41, c42, hBw4⟩ := HCP.out w4 hb4)
          | (go_at_call 22; refine (H22.out _ (HFI.out _ hBw4).1 (HFI.out _ hBw4).2.2 hy0).mono ?_; rintro e w5 ⟨D, g, cl, rfl, hI5, HPC, hB5⟩; obtain ⟨hb5, hz5⟩ := HST.out _ _ _ hb4 hz4 hB5; obtain ⟨c50, c51, c52, hBw5⟩ := HCP.out w5 hb5)
          | (go_at_call 13; refine (H13.out _ _ _ _ (HFI.out _ hBw5).1 (HFI.out _ hBw5).2.1 hI5 HPC.out).mono ?_; rintro e w6 ⟨rfl, hB6⟩; obtain ⟨hb6, hz6⟩ := HST.out _ _ _ hb5 hz5 hB6; obtain ⟨c60, c61, c62, hBw6⟩ := HCP.out w6 hb6)
          | (go_at_call 10; refine (H10.out _).mono ?_; rintro e w7 ⟨rfl, hB7⟩; obtain ⟨hb7, hz7⟩ := HST.out _ _ _ hb6 hz6 hB7; obtain ⟨c70, c71, c72, hBw7⟩ := HCP.out w7 hb7)
          | fail)
        refine bodyPost_ret (v := .bool true) (by simp [results, Try.results5, go_sem]) rfl ⟨rfl, hBw7⟩
  · go_wp2_with (first
      | (go_at_call 10; refine (H10.out _).mono ?_; rintro e w2 ⟨rfl, hB2⟩)
      | fail)
    refine bodyPost_ret (v := .bool true) (by simp [results, Try.results5, go_sem]) rfl ⟨rfl, hBw1.trans (hB2.mono hBw1.size)⟩
set_option maxRecDepth 100000 in
set_option maxHeartbeats 8000000 in
theorem true_lack (x : Prk) (A C B : Option Addr) (c f d : Nat) (l ys : List Int) (w : World) (hA : Fours w w.heap.size A x.sp) (hx : Prk64 x) (hl : Ints w w.heap.size C l) (hll : l.length ≤ 9223372036854775807) (hy : U32W w w.heap.size B ys) (hyl : ys.length ≤ 9223372036854775807) (hyb : ∀ y ∈ ys, 0 ≤ y ∧ y ≤ 4294967295) (hok : PrkOk x) (hpo : PostsOk x l) (hp : prkB x = true) (hq : postsB x l = true) (S : Nat) (kk : Int) (hS0 : 0 < S) (hSn : S < 2 ^ x.n) (hk0 : 0 < kk) (hke : kk = needV x S - forX x (crF l) S) (hr : lackR x l = ((S : Int), kk, 0)) (hm : ∀ m, PossL x m → ∃ b, holdsR x l m = (b, 0)) (hw : ∀ m, PossL x m → needC x S (crF m) = needV x S → holdsR x l m = (false, 0)) :
    Calls Try.prog 5 #[x.val A c, .slice C l.length f, .slice B ys.length d] w fun e w' => e = .returned (.bool true) ∧ Below w.heap.size w w' := by
  have HFI : Hid (∀ W, Below w.heap.size w W → Fours W W.heap.size A x.sp ∧ Ints W W.heap.size C l ∧ U32W W W.heap.size B ys) := Lib.hid fun W hW => ⟨(hA.below hW).more hW.size, (hl.below hW).more hW.size, (hy.below hW).more hW.size⟩
  have hxl := hx.len
  have H9 : Hid (∀ W : World, Fours W W.heap.size A x.sp → Calls Try.prog 9 #[.agg #[.slice A x.sp.length c, I x.alo, I x.ahi]] W fun e w' => ∃ b : Bool, e = .returned (.bool b) ∧ Below W.heap.size W w') := Lib.hid fun W h => busy9 x A c W h hx
  have H10 : Hid (∀ W : World, Calls Try.prog 10 #[] W fun e w' => e = .returned (.bool true) ∧ Below W.heap.size W w') := Lib.hid awake10
  have HYB := Lib.hid hyb
  have HX := Lib.hid hok
  have hn6 : x.sp.length ≤ 6 := hok.n6
  have hS64 : S < 64 := Nat.lt_of_lt_of_le hSn (pow_six' hn6)
  have HLO : Hid (∀ k (h : k < x.sp.length), x.sp[k].1 = x.lo k ∧ x.sp[k].2.1 = x.hi k ∧ x.sp[k].2.2.1 = x.ho k ∧ x.sp[k].2.2.2 = x.ne k) := Lib.hid fun k h => by simp [Prk.lo, Prk.hi, Prk.ho, Prk.ne, List.getD, h]
  have H17 : Hid (∀ W : World, Fours W W.heap.size A x.sp → Calls Try.prog 17 #[.agg #[.slice A x.sp.length c, I x.alo, I x.ahi]] W fun e w' => e = .returned (.bool true) ∧ Below W.heap.size W w') := Lib.hid fun W h => by
    have := park17 x A c W h hxl
    rwa [hp] at this
  have H21 : Hid (∀ W : World, Ints W W.heap.size C l → Calls Try.prog 21 #[.agg #[.slice A x.sp.length c, I x.alo, I x.ahi], .slice C l.length f] W fun e w' => e = .returned (.bool true) ∧ Below W.heap.size W w') := Lib.hid fun W h => by
    have := posts21 x A C c f l W h hll hxl
    rwa [hq] at this
  have H15 : Hid (∀ W : World, Fours W W.heap.size A x.sp → Ints W W.heap.size C l → Calls Try.prog 15 #[.agg #[.slice A x.sp.length c, I x.alo, I x.ahi], .slice C l.length f] W fun e w' => e = .returned (.tuple #[I S, I kk, I 0]) ∧ Below W.heap.size W w') := Lib.hid fun W h h1 => by
    have := lacking15 x A C c f l W h h1 hxl hll
    rwa [hr] at this
  have H22 : Hid (∀ W : World, Fours W W.heap.size A x.sp → U32W W W.heap.size B ys → 0 < ys.length → Calls Try.prog 22 #[.agg #[.slice A x.sp.length c, I x.alo, I x.ahi], .slice B ys.length d] W fun e w' => ∃ (D : Option Addr) (g : Nat) (cl : List Int), e = .returned (.slice D x.sp.length g) ∧ Ints w' w'.heap.size D cl ∧ Hid (PossL x cl) ∧ Below W.heap.size W w') := Lib.hid fun W h h1 h2 =>
    (some22 x A B c d ys W hok h h1 h2 hyl hyb).mono fun e w' ⟨D, g, cl, k1, k2, k3, k4, k5⟩ => ⟨D, g, cl, k1, k2, Lib.hid ⟨k3, k4⟩, k5⟩
  have H13 : Hid (∀ (W : World) (D : Option Addr) (g : Nat) (cl : List Int), Fours W W.heap.size A x.sp → Ints W W.heap.size C l → Ints W W.heap.size D cl → PossL x cl → Calls Try.prog 13 #[.agg #[.slice A x.sp.length c, I x.alo, I x.ahi], .slice C l.length f, .slice D x.sp.length g] W fun e w' => ∃ b : Bool, e = .returned (.tuple #[.bool b, I 0]) ∧ Below W.heap.size W w') := Lib.hid fun W D g cl h h1 h2 h3 => by
    have hc : cl.length = x.sp.length := h3.1
    have := holds13 x A C D c f g l cl W h h1 h2 hxl hll (by rw [hc]; exact hxl)
    obtain ⟨b, hb⟩ := hm cl h3
    rw [hb, hc] at this
    exact this.mono fun e w' h => ⟨b, h⟩
  have H13W : Hid (∀ (W : World) (D : Option Addr) (g : Nat) (cl : List Int), Fours W W.heap.size A x.sp → Ints W W.heap.size C l → Ints W W.heap.size D cl → PossL x cl → needC x S (crF cl) = needV x S → Calls Try.prog 13 #[.agg #[.slice A x.sp.length c, I x.alo, I x.ahi], .slice C l.length f, .slice D x.sp.length g] W fun e w' => e = .returned (.tuple #[.bool false, I 0]) ∧ Below W.heap.size W w') := Lib.hid fun W D g cl h h1 h2 h3 h4 => by
    have hc : cl.length = x.sp.length := h3.1
    have := holds13 x A C D c f g l cl W h h1 h2 hxl hll (by rw [hc]; exact hxl)
    rwa [hw cl h3 h4, hc] at this
  have H11 : Hid (∀ (W : World), Fours W W.heap.size A x.sp → Calls Try.prog 11 #[.agg #[.slice A x.sp.length c, I x.alo, I x.ahi], I S] W fun e w' => e = .returned (.tuple #[I (needV x S), I 0]) ∧ Below W.heap.size W w') := Lib.hid fun W h => by
    have := need11 x A c S W h hxl
    rwa [needR_okT hp hSn] at this
  have H23 : Hid (∀ (W : World), Fours W W.heap.size A x.sp → Calls Try.prog 23 #[.agg #[.slice A x.sp.length c, I x.alo, I x.ahi], I S] W fun e w' => ∃ (D : Option Addr) (g : Nat) (cm : List Int), e = .returned (.slice D x.sp.length g) ∧ Ints w' w'.heap.size D cm ∧ Hid (PossL x cm) ∧ Hid (needC x S (crF cm) = needV x S) ∧ Below W.heap.size W w') := Lib.hid fun W h =>
    (worst23 x A c S W hok h hS64).mono fun e w' ⟨D, g, cm, k1, k2, k3, k4, k5, k6⟩ => ⟨D, g, cm, by rw [k1, show cm.length = x.sp.length from k3], k2, Lib.hid ⟨k3, k4⟩, Lib.hid k5.val.symm, k6⟩
  have H26 : Hid (∀ (W : World), Fours W W.heap.size A x.sp → Ints W W.heap.size C l → Calls Try.prog 26 #[.agg #[.slice A x.sp.length c, I x.alo, I x.ahi], .slice C l.length f, I S] W fun e w' => e = .returned (I (forX x (crF l) S)) ∧ Below W.heap.size W w') := Lib.hid fun W h h1 => for26 x A C c f l S W hok h h1 hpo.1 (posts_crF hpo).2 hS64
  have hnb := needV_bd hok S
  obtain ⟨nv, hnv⟩ : ∃ nv, needV x S = nv := ⟨_, rfl⟩
  have HNV := Lib.hid hnv
  rw [hnv] at H11 hke hnb
  have hfx0 : 0 ≤ forX x (crF l) S := (forX_nn hok fun i hi => ((posts_crF hpo).2 i hi).1)
  generalize forX x (crF l) S = fx at *
  have hkd : nv - fx = kk := hke.symm
  have hfx : IntKind.i64.wrap kk = kk := IntWalk.i64_in _ (by omega)
  have t1 : True := trivial
  have t2 : True := trivial
  clear hok hp hq hr hm hw hpo hSn hke hnv
  clear hA hx hl hy hyb
  simp only [Prk.val]
  generalize x.alo = al at *
  generalize x.ahi = ah at *
  have HW : Hid (Below w.heap.size w (w.alloc (.cells #[.slice A x.sp.length c, I al, I ah] 26))) := Lib.hid (below1 _ _)
  have HCP : Hid (∀ W, Below (w.heap.size + 1) (w.alloc (.cells #[.slice A x.sp.length c, I al, I ah] 26)) W → W.cell? ⟨w.heap.size, 0, none⟩ = some (.slice A x.sp.length c) ∧ W.cell? ⟨w.heap.size, 1, none⟩ = some (I al) ∧ W.cell? ⟨w.heap.size, 2, none⟩ = some (I ah) ∧ Below w.heap.size w W) := Lib.hid fun W hW =>
    ⟨(hW.cell (p := ⟨_, _, none⟩) (by simp)).trans (by simp [go_sem]), (hW.cell (p := ⟨_, _, none⟩) (by simp)).trans (by simp [go_sem]), (hW.cell (p := ⟨_, _, none⟩) (by simp)).trans (by simp [go_sem]), (below1 w _).trans (hW.mono (by omega))⟩
  have HST : Hid (∀ V W X : World, Below (w.heap.size + 1) V W → w.heap.size + 1 ≤ W.heap.size → Below W.heap.size W X → Below (w.heap.size + 1) V X ∧ w.heap.size + 1 ≤ X.heap.size) := Lib.hid fun V W X h1 h2 h3 => ⟨h1.trans (h3.mono h2), by have := h3.size; omega⟩
  have hsz : (w.alloc (.cells #[.slice A x.sp.length c, I al, I ah] 26)).heap.size = w.heap.size + 1 := by simp
  go_enter Try.func5, Try.ntmps5
  go_wp2_with (fail)
  refine (H9.out _ (HFI.out _ HW.out).1).mono ?_
  rintro e w1 ⟨b, rfl, hB1⟩
  have hb1 : Below (w.heap.size + 1) (w.alloc (.cells #[.slice A x.sp.length c, I al, I ah] 26)) w1 := hB1.mono (by omega)
  have hz1 : w.heap.size + 1 ≤ w1.heap.size := by have := hB1.size; omega
  obtain ⟨q0, q1, q2, hBw1⟩ := HCP.out w1 hb1
  clear hB1
  cases b
  · by_cases hlb : 10 < l.length
    · have hlbd : decide ((10 : Int) < (l.length : Int)) = true := decide_eq_true (by omega)
      go_wp2_with (first
        | (go_at_call 10; refine (H10.out _).mono ?_; rintro e w2 ⟨rfl, hB2⟩)
        | fail)
      refine bodyPost_ret (v := .bool true) (by simp [results, Try.results5, go_sem]) rfl ⟨rfl, hBw1.trans (hB2.mono hBw1.size)⟩
    · have hlbd : decide ((10 : Int) < (l.length : Int)) = false := decide_eq_false (by omega)
      rcases Nat.eq_zero_or_pos ys.length with hy0 | hy0
      · go_wp2_with (first
          | (go_at_call 10; refine (H10.out _).mono ?_; rintro e w2 ⟨rfl, hB2⟩)
          | fail)
        refine bodyPost_ret (v := .bool true) (by simp [results, Try.results5, go_sem]) rfl ⟨rfl, hBw1.trans (hB2.mono hBw1.size)⟩
      · go_wp2_with (first
          | (go_at_call 15; refine (H15.out _ (HFI.out _ hBw1).1 (HFI.out _ hBw1).2.1).mono ?_; rintro e w2 ⟨rfl, hB2⟩; obtain ⟨hb2, hz2⟩ := HST.out _ _ _ hb1 hz1 hB2; obtain ⟨c20, c21, c22, hBw2⟩ := HCP.out w2 hb2)
          | (go_at_call 17; refine (H17.out _ (HFI.out _ hBw2).1).mono ?_; rintro e w3 ⟨rfl, hB3⟩; obtain ⟨hb3, hz3⟩ := HST.out _ _ _ hb2 hz2 hB3; obtain ⟨c30, c31, c32, hBw3⟩ := HCP.out w3 hb3)
          | (go_at_call 21; refine (H21.out _ (HFI.out _ hBw3).2.1).mono ?_; rintro e w4 ⟨rfl, hB4⟩; obtain ⟨hb4, hz4⟩ := HST.out _ _ _ hb3 hz3 hB4; obtain ⟨c40, c41, c42, hBw4⟩ := HCP.out w4 hb4)
          | (go_at_call 22; refine (H22.out _ (HFI.out _ hBw4).1 (HFI.out _ hBw4).2.2 hy0).mono ?_; rintro e w5 ⟨D, g, cl, rfl, hI5, HPC, hB5⟩; obtain ⟨hb5, hz5⟩ := HST.out _ _ _ hb4 hz4 hB5; obtain ⟨c50, c51, c52, hBw5⟩ := HCP.out w5 hb5)
          | (go_at_call 13; have _t := t1; refine (H13.out _ _ _ _ (HFI.out _ hBw5).1 (HFI.out _ hBw5).2.1 hI5 HPC.out).mono ?_; rintro e w6 ⟨b, rfl, hB6⟩; obtain ⟨hb6, hz6⟩ := HST.out _ _ _ hb5 hz5 hB6; obtain ⟨c60, c61, c62, hBw6⟩ := HCP.out w6 hb6; clear t1)
          | (go_at_call 11; refine (H11.out _ (HFI.out _ hBw6).1).mono ?_; rintro e w7 ⟨rfl, hB7⟩; obtain ⟨hb7, hz7⟩ := HST.out _ _ _ hb6 hz6 hB7; obtain ⟨c70, c71, c72, hBw7⟩ := HCP.out w7 hb7)
          | (go_at_call 23; refine (H23.out _ (HFI.out _ hBw7).1).mono ?_; rintro e w8 ⟨D2, g2, cm, rfl, hI8, HPM, HNM, hB8⟩; obtain ⟨hb8, hz8⟩ := HST.out _ _ _ hb7 hz7 hB8; obtain ⟨c80, c81, c82, hBw8⟩ := HCP.out w8 hb8)
          | (go_at_call 13; have _t := t2; refine (H13W.out _ _ _ _ (HFI.out _ hBw8).1 (HFI.out _ hBw8).2.1 hI8 HPM.out HNM.out).mono ?_; rintro e w9 ⟨rfl, hB9⟩; obtain ⟨hb9, hz9⟩ := HST.out _ _ _ hb8 hz8 hB9; obtain ⟨c90, c91, c92, hBw9⟩ := HCP.out w9 hb9; clear t2)
          | fail)
        have HLI : Hid (∀ W, Below w9.heap.size w9 W → Ints W W.heap.size D2 cm) := Lib.hid fun W h => (((hI8.below hB9).more hB9.size).below h).more h.size
        have HCM : Hid (cm.length = x.sp.length) := Lib.hid HPM.out.1
        have HSN : Hid (needTo x S (crF cm) x.sp.length = nv) := Lib.hid (HNM.out.trans HNV.out)
        have HBD := Lib.hid (needTo_bd HX.out S HPM.out.2.1)
        have HSB : Hid (∀ k, k ≤ x.sp.length → sumN (crF cm) k ≤ 6291456) := Lib.hid fun k hk => (sum_crowd HX.out hk fun j hj => HPM.out.2.1 j (Nat.lt_of_lt_of_le hj hk)).2
        have HCC := Lib.hid HPM.out.2.1
        have HNS : Hid (∀ k, needTo x S (crF cm) (k + 1) = needTo x S (crF cm) k + if S.testBit k then need1 (x.ho k) (crF cm k) else 0) := Lib.hid fun k => rfl
        clear hI8 hI5
        go_loopw [18, 19] (fun s18 s19 wr => ∃ k : Nat, k ≤ x.sp.length ∧ s19 = I k ∧ s18 = I (needTo x S (crF cm) k) ∧ Below w9.heap.size w9 wr) (fun _ s _ => x.sp.length - (intOf s).toNat)
        case atStart => exact ⟨0, by omega, rfl, rfl, (by first | exact Below.refl _ _ | exact below_drewN (Below.refl _ _) _)⟩
        case round =>
          obtain ⟨k, hk, rfl, rfl, hB⟩ := hrel
          have hzr := hB.size
          obtain ⟨m0, m1, m2, hBw⟩ := HCP.out _ (hb9.trans (hB.mono hz9))
          have hsb := HBD.out k hk
          have hsc := HSB.out k hk
          by_cases hlt : k < x.sp.length
          · obtain ⟨lb, lo', hLe, hlz, hlc⟩ := (HLI.out _ hB) (by rw [HCM.out]; omega)
            subst hLe
            obtain ⟨ab, ao, hAe, haz, hac⟩ := (HFI.out _ hBw).1 (by omega)
            subst hAe
            have l0 := hlc k (by rw [HCM.out]; omega)
            obtain ⟨a0, a1, a2, a3⟩ := hac k hlt
            obtain ⟨e0, e1, e2, e3⟩ := HLO.out k hlt
            rw [e0] at a0
            rw [e1] at a1
            rw [e2] at a2
            rw [e3] at a3
            rw [show cm[k]'(by rw [HCM.out]; omega) = crF cm k from by simp [crF, List.getD, HCM.out, hlt]] at l0
            have HNK := Lib.hid (HNS.out k)
            obtain ⟨ho1, ho2⟩ := HX.out.hold k hlt
            have hpk := HX.out.peo k hlt
            have hck := HCC.out k hlt
            have hnb := need1_bd (h := x.ho k) (p := crF cm k) ho1 (by omega)
            have H25 : Hid (∀ W : World, Calls Try.prog 25 #[.agg #[I (x.lo k), I (x.hi k), I (x.ho k), I (x.ne k)], I (crF cm k)] W fun e w' => e = .returned (I (need1 (x.ho k) (crF cm k))) ∧ Below W.heap.size W w') := Lib.hid fun W => of25 _ _ _ _ _ W ho1 ho2 (by omega) (by omega)
            have HBK : Hid (∀ W : World, Calls Try.prog 24 #[I S, I k] W fun e w' => e = .returned (.bool (S.testBit k)) ∧ W = w') := Lib.hid fun W => bit24 S k W (by omega) (by omega)
            clear hlc hac e0 e1 e2 e3
            generalize needTo x S (crF cm) k = sm at *
            generalize need1 (x.ho k) (crF cm k) = nn at *
            generalize crF cm k = v at *
            generalize x.lo k = lo at *
            generalize x.hi k = hi at *
            generalize x.ho k = ho at *
            generalize x.ne k = ne at *
            obtain ⟨b', hb⟩ : ∃ b', S.testBit k = b' := ⟨_, rfl⟩
            rw [hb] at HNK HBK
            have p0 : (0 : Int) ≤ (k : Int) := by omega
            have p1 : (k : Int) < (x.sp.length : Int) := by omega
            have hwr : IntKind.i64.wrap (sm + nn) = sm + nn := IntWalk.i64_in _ (by omega)
            clear hb
            have HCX : Hid (∀ W, Below wr.heap.size wr W → W.cell? ⟨w.heap.size, 0, none⟩ = some (.slice (some ⟨ab, ao, none⟩) x.sp.length c) ∧ W.cell? ⟨ab, ao + k * 4, none⟩ = some (I lo) ∧ W.cell? ⟨ab, ao + k * 4 + 1, none⟩ = some (I hi) ∧ W.cell? ⟨ab, ao + k * 4 + 2, none⟩ = some (I ho) ∧ W.cell? ⟨ab, ao + k * 4 + 3, none⟩ = some (I ne) ∧ W.cell? ⟨lb, lo' + k, none⟩ = some (I v)) := Lib.hid fun W hW =>
              ⟨(hW.cell (p := ⟨w.heap.size, 0, none⟩) (show w.heap.size < _ by omega)).trans m0, (hW.cell (p := ⟨ab, ao + k * 4, none⟩) haz).trans a0, (hW.cell (p := ⟨ab, ao + k * 4 + 1, none⟩) haz).trans a1, (hW.cell (p := ⟨ab, ao + k * 4 + 2, none⟩) haz).trans a2, (hW.cell (p := ⟨ab, ao + k * 4 + 3, none⟩) haz).trans a3, (hW.cell (p := ⟨lb, lo' + k, none⟩) hlz).trans l0⟩
            cases b'
            · go_wp2_with (first
                | (go_at_call 24; refine (HBK.out _).mono ?_; rintro e w2 ⟨rfl, rfl⟩)
                | fail)
              go_roundw
              case rel => first | exact ⟨k + 1, by omega, by go_num, by rw [HNK.out]; simp, hB⟩ | ((repeat apply Exists.intro); refine ⟨?_, rfl⟩; exact ⟨k + 1, by omega, by go_num, by rw [HNK.out]; simp, hB⟩)
              case measure => first | (simp [intOf]; done) | (simp [intOf]; omega)
            · go_wp2_with (first
                | (go_at_call 24; refine (HBK.out _).mono ?_; rintro e w2 ⟨rfl, rfl⟩)
                | fail)
              refine (wpIn_wide (n := 9)).1 ?_
              refine wpIn_region_plan (Plan.ons [0, 1, 2, 3, 4, 5, 6, 7, 8, 9, 10, 11, 12] .fin) [0] (fun W' => Below wr.heap.size wr W') [] rfl (by kernel_rfl) (by kernel_rfl) (fun _ d _ _ _ h => by cases d <;> exact h) (Below.refl _ _).drew ?_
              (refine ordQ_held (I sm) rfl rfl rfl rfl (fun W' hC' => ?_) (fun K hK => ?_); (focus (obtain _ := hC'; go_simp; try exact ⟨rfl, rfl⟩)); go_simp; refine hK _ ?_; clear hK K)
              obtain ⟨n0, n1, n2, n3, n4, n5⟩ := HCX.out wr (Below.refl _ _)
              iterate 9 (refine ordQ_li rfl rfl rfl (fun K hK => ?_); go_simp; refine hK _ ?_; clear hK K)
              refine ordQ_hv rfl rfl rfl (fun K hK => ?_)
              gi_wp2_with (refine And.intro trivial ?_; gi_at_call 25; refine callsIn_wide.2 ((H25.out _).mono ?_); rintro e w5 ⟨rfl, hB5⟩)
              have hb5 : Below wr.heap.size wr w5 := by simpa using (Below.refl _ _).drew.trans hB5
              refine hK _ _ (fun _ => hb5) ?_
              clear hK K hB5
              iterate 2 (refine ordQ_li rfl rfl rfl (fun K hK => ?_); go_simp; refine hK _ ?_; clear hK K)
              refine ordQ_fin ?_
              have hB2 := hB.trans (hb5.mono (by omega))
              go_wp2_with (fail)
              go_roundw
              case rel => first | exact ⟨k + 1, by omega, by go_num, by rw [HNK.out]; simp, hB2⟩ | ((repeat apply Exists.intro); refine ⟨?_, rfl⟩; exact ⟨k + 1, by omega, by go_num, by rw [HNK.out]; simp, hB2⟩)
              case measure => first | (simp [intOf]; done) | (simp [intOf]; omega)
          · obtain rfl : k = x.sp.length := by omega
            rw [HSN.out]
            clear HSN
            obtain ⟨hb9', hz9'⟩ : Below (w.heap.size + 1) (w.alloc (.cells #[.slice A x.sp.length c, I al, I ah] 26)) wr ∧ w.heap.size + 1 ≤ wr.heap.size := ⟨hb9.trans (hB.mono hz9), by omega⟩
            go_wp2_with (first
              | (go_at_call 26; refine (H26.out _ (HFI.out _ hBw).1 (HFI.out _ hBw).2.1).mono ?_; rintro e w10 ⟨rfl, hB10⟩; obtain ⟨hb10, hz10⟩ := HST.out _ _ _ hb9' hz9' hB10; obtain ⟨c100, c101, c102, hBw10⟩ := HCP.out w10 hb10)
              | (go_at_call 10; refine (H10.out _).mono ?_; rintro e w11 ⟨rfl, hB11⟩; obtain ⟨hb11, hz11⟩ := HST.out _ _ _ hb10 hz10 hB11; obtain ⟨c110, c111, c112, hBw11⟩ := HCP.out w11 hb11)
              | fail)
            refine bodyPost_ret (v := .bool true) (by simp [results, Try.results5, go_sem]) rfl ⟨rfl, hBw11⟩
  · go_wp2_with (first
      | (go_at_call 10; refine (H10.out _).mono ?_; rintro e w2 ⟨rfl, hB2⟩)
      | fail)
    refine bodyPost_ret (v := .bool true) (by simp [results, Try.results5, go_sem]) rfl ⟨rfl, hBw1.trans (hB2.mono hBw1.size)⟩
theorem true_any (x : Prk) (A C B : Option Addr) (c f d : Nat) (l ys : List Int) (w : World) (hA : Fours w w.heap.size A x.sp) (hx : Prk64 x) (hl : Ints w w.heap.size C l) (hll : l.length ≤ 9223372036854775807) (hy : U32W w w.heap.size B ys) (hyl : ys.length ≤ 9223372036854775807) (hyb : ∀ y ∈ ys, 0 ≤ y ∧ y ≤ 4294967295) :
    Calls Try.prog 5 #[x.val A c, .slice C l.length f, .slice B ys.length d] w fun e w' => e = .returned (.bool true) ∧ Below w.heap.size w w' := by
  rcases true_law x l with ⟨h1, e, h2, h3⟩ | ⟨h1, h2, h3, h4⟩ | ⟨h1, h2, S, k, h3, h4, h5, h6, h7, h8, h9⟩
  · cases hp : prkB x
    · cases hq : postsB x l
      · exact true_bad2 x A C B c f d l ys w hA hx hl hll hy hyl hyb hp hq e h2 h3
      · exact true_bad1 x A C B c f d l ys w hA hx hl hll hy hyl hyb hp hq e h2 h3
    · cases hq : postsB x l
      · exact true_bad3 x A C B c f d l ys w hA hx hl hll hy hyl hyb hp hq e h2 h3
      · rw [hp, hq] at h1
        cases h1
  · exact true_none x A C B c f d l ys w hA hx hl hll hy hyl hyb h1 (prkB_iff.2 h1) (postsB_iff.2 h2) h3 h4
  · exact true_lack x A C B c f d l ys w hA hx hl hll hy hyl hyb h1 h2 (prkB_iff.2 h1) (postsB_iff.2 h2) S k h3 h4 h5 h6 h7 h8 h9
end Go.Proofs.Ytfebhofihioaoaa
