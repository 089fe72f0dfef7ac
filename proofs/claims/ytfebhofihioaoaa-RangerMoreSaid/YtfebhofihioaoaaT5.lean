/- RangerMore: the walk. -/
import Derived.Test.YtfebhofihioaoaaS28
import Derived.Test.YtfebhofihioaoaaO15
import Derived.Test.YtfebhofihioaoaaA14
namespace Go.Proofs.Ytfebhofihioaoaa
set_option linter.unusedVariables false
set_option linter.unusedSimpArgs false
open Go Go.RowKit

set_option maxRecDepth 100000 in
set_option maxHeartbeats 8000000 in
theorem more_not (x : Prk) (A C : Option Addr) (c f : Nat) (l : List Int) (wh ne le : Int) (w : World) (hA : Fours w w.heap.size A x.sp) (hx : Prk64 x) (hl : Ints w w.heap.size C l) (hll : l.length ≤ 9223372036854775807) (hwh : 0 ≤ wh ∧ wh ≤ 255) (hne : 0 ≤ ne ∧ ne ≤ 255) (hle : 0 ≤ le ∧ le ≤ 65535) (h4 : (lackR x l).2.2 ≠ 4) :
    Calls Try.prog 7 #[x.val A c, .slice C l.length f, .int .u8 wh, .int .u8 ne, .int .u16 le] w fun e w' => e = .returned (.bool true) ∧ Below w.heap.size w w' := by
  have HFI : Hid (∀ W, Below w.heap.size w W → Fours W W.heap.size A x.sp ∧ Ints W W.heap.size C l) := Lib.hid fun W hW => ⟨(hA.below hW).more hW.size, (hl.below hW).more hW.size⟩
  have hxl := hx.len
  have H9 : Hid (∀ W : World, Fours W W.heap.size A x.sp → Calls Try.prog 9 #[.agg #[.slice A x.sp.length c, I x.alo, I x.ahi]] W fun e w' => ∃ b : Bool, e = .returned (.bool b) ∧ Below W.heap.size W w') := Lib.hid fun W h => busy9 x A c W h hx
  have H10 : Hid (∀ W : World, Calls Try.prog 10 #[] W fun e w' => e = .returned (.bool true) ∧ Below W.heap.size W w') := Lib.hid awake10
  have H15 : Hid (∀ W : World, Fours W W.heap.size A x.sp → Ints W W.heap.size C l → Calls Try.prog 15 #[.agg #[.slice A x.sp.length c, I x.alo, I x.ahi], .slice C l.length f] W fun e w' => ∃ a b z : Int, z ≠ 4 ∧ e = .returned (.tuple #[I a, I b, I z]) ∧ Below W.heap.size W w') := Lib.hid fun W h h1 =>
    (lacking15 x A C c f l W h h1 hxl hll).mono fun e w' ⟨k1, k2⟩ => ⟨_, _, _, h4, k1, k2⟩
  clear h4
  clear hA hx hl
  simp only [Prk.val]
  generalize x.alo = al at *
  generalize x.ahi = ah at *
  have HW : Hid (Below w.heap.size w (w.alloc (.cells #[.slice A x.sp.length c, I al, I ah] 26))) := Lib.hid (below1 _ _)
  have HCP : Hid (∀ W, Below (w.heap.size + 1) (w.alloc (.cells #[.slice A x.sp.length c, I al, I ah] 26)) W → W.cell? ⟨w.heap.size, 0, none⟩ = some (.slice A x.sp.length c) ∧ W.cell? ⟨w.heap.size, 1, none⟩ = some (I al) ∧ W.cell? ⟨w.heap.size, 2, none⟩ = some (I ah) ∧ Below w.heap.size w W) := Lib.hid fun W hW =>
    ⟨(hW.cell (p := ⟨_, _, none⟩) (by simp)).trans (by simp [go_sem]), (hW.cell (p := ⟨_, _, none⟩) (by simp)).trans (by simp [go_sem]), (hW.cell (p := ⟨_, _, none⟩) (by simp)).trans (by simp [go_sem]), (below1 w _).trans (hW.mono (by omega))⟩
  have HST : Hid (∀ V W X : World, Below (w.heap.size + 1) V W → w.heap.size + 1 ≤ W.heap.size → Below W.heap.size W X → Below (w.heap.size + 1) V X ∧ w.heap.size + 1 ≤ X.heap.size) := Lib.hid fun V W X h1 h2 h3 => ⟨h1.trans (h3.mono h2), by have := h3.size; omega⟩
  have hsz : (w.alloc (.cells #[.slice A x.sp.length c, I al, I ah] 26)).heap.size = w.heap.size + 1 := by simp
  go_enter Try.func7, Try.ntmps7
  go_wp2_with (fail)
  refine (H9.out _ (HFI.out _ HW.out).1).mono ?_
  rintro e w1 ⟨b, rfl, hB1⟩
  have hb1 : Below (w.heap.size + 1) (w.alloc (.cells #[.slice A x.sp.length c, I al, I ah] 26)) w1 := hB1.mono (by omega)
  have hz1 : w.heap.size + 1 ≤ w1.heap.size := by have := hB1.size; omega
  obtain ⟨q0, q1, q2, hBw1⟩ := HCP.out w1 hb1
  clear hB1
  cases b
  · by_cases hlb : 10 < l.length
    · have hlbd : decide ((10 : Int) < (l.length : Int)) = true := decide_eq_true (by omega)
      go_wp2_with (first
        | (go_at_call 10; refine (H10.out _).mono ?_; rintro e w2 ⟨rfl, hB2⟩)
        | fail)
      refine bodyPost_ret (v := .bool true) (by simp [results, Try.results7, go_sem]) rfl ⟨rfl, hBw1.trans (hB2.mono hBw1.size)⟩
    · have hlbd : decide ((10 : Int) < (l.length : Int)) = false := decide_eq_false (by omega)
      go_wp2_with (first
        | (go_at_call 15; refine (H15.out _ (HFI.out _ hBw1).1 (HFI.out _ hBw1).2).mono ?_; rintro e w2 ⟨la, lb, z, hz4, rfl, hB2⟩; obtain ⟨hb2, hz2⟩ := HST.out _ _ _ hb1 hz1 hB2; obtain ⟨c20, c21, c22, hBw2⟩ := HCP.out w2 hb2; have hzb : (z != 4) = true := (by simpa using hz4); clear hz4)
        | (go_at_call 10; refine (H10.out _).mono ?_; rintro e w3 ⟨rfl, hB3⟩; obtain ⟨hb3, hz3⟩ := HST.out _ _ _ hb2 hz2 hB3; obtain ⟨c30, c31, c32, hBw3⟩ := HCP.out w3 hb3)
        | fail)
      refine bodyPost_ret (v := .bool true) (by simp [results, Try.results7, go_sem]) rfl ⟨rfl, hBw3⟩
  · go_wp2_with (first
      | (go_at_call 10; refine (H10.out _).mono ?_; rintro e w2 ⟨rfl, hB2⟩)
      | fail)
    refine bodyPost_ret (v := .bool true) (by simp [results, Try.results7, go_sem]) rfl ⟨rfl, hBw1.trans (hB2.mono hBw1.size)⟩
set_option maxRecDepth 100000 in
set_option maxHeartbeats 8000000 in
theorem more_zero (x : Prk) (A C : Option Addr) (c f : Nat) (l : List Int) (wh ne le : Int) (w : World) (hA : Fours w w.heap.size A x.sp) (hx : Prk64 x) (hl : Ints w w.heap.size C l) (hll : l.length ≤ 9223372036854775807) (hwh : 0 ≤ wh ∧ wh ≤ 255) (hne : 0 ≤ ne ∧ ne ≤ 255) (hle : 0 ≤ le ∧ le ≤ 65535) (h4 : (lackR x l).2.2 = 4) (h0 : x.sp.length = 0) :
    Calls Try.prog 7 #[x.val A c, .slice C l.length f, .int .u8 wh, .int .u8 ne, .int .u16 le] w fun e w' => e = .returned (.bool true) ∧ Below w.heap.size w w' := by
  have HFI : Hid (∀ W, Below w.heap.size w W → Fours W W.heap.size A x.sp ∧ Ints W W.heap.size C l) := Lib.hid fun W hW => ⟨(hA.below hW).more hW.size, (hl.below hW).more hW.size⟩
  have hxl := hx.len
  have H9 : Hid (∀ W : World, Fours W W.heap.size A x.sp → Calls Try.prog 9 #[.agg #[.slice A x.sp.length c, I x.alo, I x.ahi]] W fun e w' => ∃ b : Bool, e = .returned (.bool b) ∧ Below W.heap.size W w') := Lib.hid fun W h => busy9 x A c W h hx
  have H10 : Hid (∀ W : World, Calls Try.prog 10 #[] W fun e w' => e = .returned (.bool true) ∧ Below W.heap.size W w') := Lib.hid awake10
  obtain ⟨hok, hpo, _⟩ := lack_ok h4
  have hp := prkB_iff.2 hok
  have hq := postsB_iff.2 hpo
  have H17 : Hid (∀ W : World, Fours W W.heap.size A x.sp → Calls Try.prog 17 #[.agg #[.slice A x.sp.length c, I x.alo, I x.ahi]] W fun e w' => e = .returned (.bool true) ∧ Below W.heap.size W w') := Lib.hid fun W h => by
    have := park17 x A c W h hxl
    rwa [hp] at this
  have H21 : Hid (∀ W : World, Ints W W.heap.size C l → Calls Try.prog 21 #[.agg #[.slice A x.sp.length c, I x.alo, I x.ahi], .slice C l.length f] W fun e w' => e = .returned (.bool true) ∧ Below W.heap.size W w') := Lib.hid fun W h => by
    have := posts21 x A C c f l W h hll hxl
    rwa [hq] at this
  have H15 : Hid (∀ W : World, Fours W W.heap.size A x.sp → Ints W W.heap.size C l → Calls Try.prog 15 #[.agg #[.slice A x.sp.length c, I x.alo, I x.ahi], .slice C l.length f] W fun e w' => ∃ a b : Int, e = .returned (.tuple #[I a, I b, I 4]) ∧ Below W.heap.size W w') := Lib.hid fun W h h1 => by
    have := lacking15 x A C c f l W h h1 hxl hll
    rw [h4] at this
    exact this.mono fun e w' ⟨k1, k2⟩ => ⟨_, _, k1, k2⟩
  have h0b : ((x.sp.length : Int) == 0) = true := by simp [h0]
  clear h4 hok hpo hp hq h0
  clear hA hx hl
  simp only [Prk.val]
  generalize x.alo = al at *
  generalize x.ahi = ah at *
  have HW : Hid (Below w.heap.size w (w.alloc (.cells #[.slice A x.sp.length c, I al, I ah] 26))) := Lib.hid (below1 _ _)
  have HCP : Hid (∀ W, Below (w.heap.size + 1) (w.alloc (.cells #[.slice A x.sp.length c, I al, I ah] 26)) W → W.cell? ⟨w.heap.size, 0, none⟩ = some (.slice A x.sp.length c) ∧ W.cell? ⟨w.heap.size, 1, none⟩ = some (I al) ∧ W.cell? ⟨w.heap.size, 2, none⟩ = some (I ah) ∧ Below w.heap.size w W) := Lib.hid fun W hW =>
    ⟨(hW.cell (p := ⟨_, _, none⟩) (by simp)).trans (by simp [go_sem]), (hW.cell (p := ⟨_, _, none⟩) (by simp)).trans (by simp [go_sem]), (hW.cell (p := ⟨_, _, none⟩) (by simp)).trans (by simp [go_sem]), (below1 w _).trans (hW.mono (by omega))⟩
  have HST : Hid (∀ V W X : World, Below (w.heap.size + 1) V W → w.heap.size + 1 ≤ W.heap.size → Below W.heap.size W X → Below (w.heap.size + 1) V X ∧ w.heap.size + 1 ≤ X.heap.size) := Lib.hid fun V W X h1 h2 h3 => ⟨h1.trans (h3.mono h2), by have := h3.size; omega⟩
  have hsz : (w.alloc (.cells #[.slice A x.sp.length c, I al, I ah] 26)).heap.size = w.heap.size + 1 := by simp
  go_enter Try.func7, Try.ntmps7
  go_wp2_with (fail)
  refine (H9.out _ (HFI.out _ HW.out).1).mono ?_
  rintro e w1 ⟨b, rfl, hB1⟩
  have hb1 : Below (w.heap.size + 1) (w.alloc (.cells #[.slice A x.sp.length c, I al, I ah] 26)) w1 := hB1.mono (by omega)
  have hz1 : w.heap.size + 1 ≤ w1.heap.size := by have := hB1.size; omega
  obtain ⟨q0, q1, q2, hBw1⟩ := HCP.out w1 hb1
  clear hB1
  cases b
  · by_cases hlb : 10 < l.length
    · have hlbd : decide ((10 : Int) < (l.length : Int)) = true := decide_eq_true (by omega)
      go_wp2_with (first
        | (go_at_call 10; refine (H10.out _).mono ?_; rintro e w2 ⟨rfl, hB2⟩)
        | fail)
      refine bodyPost_ret (v := .bool true) (by simp [results, Try.results7, go_sem]) rfl ⟨rfl, hBw1.trans (hB2.mono hBw1.size)⟩
    · have hlbd : decide ((10 : Int) < (l.length : Int)) = false := decide_eq_false (by omega)
      go_wp2_with (first
        | (go_at_call 15; refine (H15.out _ (HFI.out _ hBw1).1 (HFI.out _ hBw1).2).mono ?_; rintro e w2 ⟨la, lb, rfl, hB2⟩; obtain ⟨hb2, hz2⟩ := HST.out _ _ _ hb1 hz1 hB2; obtain ⟨c20, c21, c22, hBw2⟩ := HCP.out w2 hb2)
        | (go_at_call 17; refine (H17.out _ (HFI.out _ hBw2).1).mono ?_; rintro e w3 ⟨rfl, hB3⟩; obtain ⟨hb3, hz3⟩ := HST.out _ _ _ hb2 hz2 hB3; obtain ⟨c30, c31, c32, hBw3⟩ := HCP.out w3 hb3)
        | (go_at_call 21; refine (H21.out _ (HFI.out _ hBw3).2).mono ?_; rintro e w4 ⟨rfl, hB4⟩; obtain ⟨hb4, hz4⟩ := HST.out _ _ _ hb3 hz3 hB4; obtain ⟨c40, c41, c42, hBw4⟩ := HCP.out w4 hb4)
        | (go_at_call 10; refine (H10.out _).mono ?_; rintro e w5 ⟨rfl, hB5⟩; obtain ⟨hb5, hz5⟩ := HST.out _ _ _ hb4 hz4 hB5; obtain ⟨c50, c51, c52, hBw5⟩ := HCP.out w5 hb5)
        | fail)
      refine bodyPost_ret (v := .bool true) (by simp [results, Try.results7, go_sem]) rfl ⟨rfl, hBw5⟩
  · go_wp2_with (first
      | (go_at_call 10; refine (H10.out _).mono ?_; rintro e w2 ⟨rfl, hB2⟩)
      | fail)
    refine bodyPost_ret (v := .bool true) (by simp [results, Try.results7, go_sem]) rfl ⟨rfl, hBw1.trans (hB2.mono hBw1.size)⟩
end Go.Proofs.Ytfebhofihioaoaa
