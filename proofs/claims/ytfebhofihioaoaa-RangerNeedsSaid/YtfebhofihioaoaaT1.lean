/- RangerNeeds. -/
import Derived.Test.YtfebhofihioaoaaS28
namespace Go.Proofs.Ytfebhofihioaoaa
set_option linter.unusedVariables false
set_option linter.unusedSimpArgs false
open Go Go.RowKit

set_option maxRecDepth 100000 in
set_option maxHeartbeats 4000000 in
theorem needs_any (x : Prk) (A B D : Option Addr) (c d f : Nat) (s : Int) (l m : List Int) (w : World) (hA : Fours w w.heap.size A x.sp) (hx : Prk64 x) (hl : Ints w w.heap.size B l) (hm : Ints w w.heap.size D m) (hll : l.length ≤ 9223372036854775807) (hml : m.length ≤ 9223372036854775807) :
    Calls Try.prog 3 #[x.val A c, I s, .slice B l.length d, .slice D m.length f] w fun e w' => e = .returned (.bool true) ∧ Below w.heap.size w w' := by
  have HFI : Hid (∀ W, Below w.heap.size w W → Fours W W.heap.size A x.sp ∧ Ints W W.heap.size B l ∧ Ints W W.heap.size D m) := Lib.hid fun W hW => ⟨(hA.below hW).more hW.size, (hl.below hW).more hW.size, (hm.below hW).more hW.size⟩
  have hxl := hx.len
  have H9 : Hid (∀ W : World, Fours W W.heap.size A x.sp → Calls Try.prog 9 #[.agg #[.slice A x.sp.length c, I x.alo, I x.ahi]] W fun e w' => ∃ b : Bool, e = .returned (.bool b) ∧ Below W.heap.size W w') := Lib.hid fun W h => busy9 x A c W h hx
  have H10 : Hid (∀ W : World, Calls Try.prog 10 #[] W fun e w' => e = .returned (.bool true) ∧ Below W.heap.size W w') := Lib.hid awake10
  have H11 : Hid (∀ W : World, Fours W W.heap.size A x.sp → Calls Try.prog 11 #[.agg #[.slice A x.sp.length c, I x.alo, I x.ahi], I s] W fun e w' => e = .returned (.tuple #[I (needR x s).1, I (needR x s).2]) ∧ Below W.heap.size W w') := Lib.hid fun W h => need11 x A c s W h hxl
  have H12 : Hid (∀ W : World, Fours W W.heap.size A x.sp → Calls Try.prog 12 #[.agg #[.slice A x.sp.length c, I x.alo, I x.ahi], I s] W fun e w' => e = .returned (.tuple #[I (needR x s).1, I (needR x s).2]) ∧ Below W.heap.size W w') := Lib.hid fun W h => need12 x A c s W h hxl
  have H13 : Hid (∀ W : World, Fours W W.heap.size A x.sp → Ints W W.heap.size B l → Ints W W.heap.size D m → Calls Try.prog 13 #[.agg #[.slice A x.sp.length c, I x.alo, I x.ahi], .slice B l.length d, .slice D m.length f] W fun e w' => e = .returned (.tuple #[.bool (holdsR x l m).1, I (holdsR x l m).2]) ∧ Below W.heap.size W w') := Lib.hid fun W h h1 h2 => holds13 x A B D c d f l m W h h1 h2 hxl hll hml
  have H14 : Hid (∀ W : World, Fours W W.heap.size A x.sp → Ints W W.heap.size B l → Ints W W.heap.size D m → Calls Try.prog 14 #[.agg #[.slice A x.sp.length c, I x.alo, I x.ahi], .slice B l.length d, .slice D m.length f] W fun e w' => e = .returned (.tuple #[.bool (holdsR x l m).1, I (holdsR x l m).2]) ∧ Below W.heap.size W w') := Lib.hid fun W h h1 h2 => holds14 x A B D c d f l m W h h1 h2 hxl hll hml
  have H15 : Hid (∀ W : World, Fours W W.heap.size A x.sp → Ints W W.heap.size B l → Calls Try.prog 15 #[.agg #[.slice A x.sp.length c, I x.alo, I x.ahi], .slice B l.length d] W fun e w' => e = .returned (.tuple #[I (lackR x l).1, I (lackR x l).2.1, I (lackR x l).2.2]) ∧ Below W.heap.size W w') := Lib.hid fun W h h1 => lacking15 x A B c d l W h h1 hxl hll
  have H16 : Hid (∀ W : World, Fours W W.heap.size A x.sp → Ints W W.heap.size B l → Calls Try.prog 16 #[.agg #[.slice A x.sp.length c, I x.alo, I x.ahi], .slice B l.length d] W fun e w' => e = .returned (.tuple #[I (lackR x l).1, I (lackR x l).2.1, I (lackR x l).2.2]) ∧ Below W.heap.size W w') := Lib.hid fun W h h1 => lacking16 x A B c d l W h h1 hxl hll
  clear hA hx hl hm
  simp only [Prk.val]
  generalize x.alo = al at *
  generalize x.ahi = ah at *
  obtain ⟨n1, n2⟩ := needR x s
  obtain ⟨h1, h2⟩ := holdsR x l m
  obtain ⟨l1, l2, l3⟩ := lackR x l
  try simp only at H11 H12 H13 H14 H15 H16
  have HW : Hid (Below w.heap.size w (w.alloc (.cells #[.slice A x.sp.length c, I al, I ah] 26))) := Lib.hid (below1 _ _)
  have HCP : Hid (∀ W, Below (w.heap.size + 1) (w.alloc (.cells #[.slice A x.sp.length c, I al, I ah] 26)) W → W.cell? ⟨w.heap.size, 0, none⟩ = some (.slice A x.sp.length c) ∧ W.cell? ⟨w.heap.size, 1, none⟩ = some (I al) ∧ W.cell? ⟨w.heap.size, 2, none⟩ = some (I ah) ∧ Below w.heap.size w W) := Lib.hid fun W hW =>
    ⟨(hW.cell (p := ⟨_, _, none⟩) (by simp)).trans (by simp [go_sem]), (hW.cell (p := ⟨_, _, none⟩) (by simp)).trans (by simp [go_sem]), (hW.cell (p := ⟨_, _, none⟩) (by simp)).trans (by simp [go_sem]), (below1 w _).trans (hW.mono (by omega))⟩
  have HST : Hid (∀ V W X : World, Below (w.heap.size + 1) V W → w.heap.size + 1 ≤ W.heap.size → Below W.heap.size W X → Below (w.heap.size + 1) V X ∧ w.heap.size + 1 ≤ X.heap.size) := Lib.hid fun V W X h1 h2 h3 => ⟨h1.trans (h3.mono h2), by have := h3.size; omega⟩
  have hsz : (w.alloc (.cells #[.slice A x.sp.length c, I al, I ah] 26)).heap.size = w.heap.size + 1 := by simp
  go_enter Try.func3, Try.ntmps3
  go_wp2_with (fail)
  refine (H9.out _ (HFI.out _ HW.out).1).mono ?_
  rintro e w1 ⟨b, rfl, hB1⟩
  have hb1 : Below (w.heap.size + 1) (w.alloc (.cells #[.slice A x.sp.length c, I al, I ah] 26)) w1 := hB1.mono (by omega)
  have hz1 : w.heap.size + 1 ≤ w1.heap.size := by have := hB1.size; omega
  obtain ⟨q0, q1, q2, hBw1⟩ := HCP.out w1 hb1
  clear hB1
  cases b
  · by_cases hlb : 10 < l.length
    · go_wp2_with (first
        | (go_at_call 10; refine (H10.out _).mono ?_; rintro e w2 ⟨rfl, hB2⟩)
        | fail)
      refine bodyPost_ret (v := .bool true) (by simp [results, Try.results3, go_sem]) rfl ⟨rfl, hBw1.trans (hB2.mono hBw1.size)⟩
    · by_cases hmb : 10 < m.length
      · go_wp2_with (first
          | (go_at_call 10; refine (H10.out _).mono ?_; rintro e w2 ⟨rfl, hB2⟩)
          | fail)
        refine bodyPost_ret (v := .bool true) (by simp [results, Try.results3, go_sem]) rfl ⟨rfl, hBw1.trans (hB2.mono hBw1.size)⟩
      · go_wp2_with (first
          | (go_at_call 11; refine (H11.out _ (HFI.out _ hBw1).1).mono ?_; rintro e w2 ⟨rfl, hB2⟩; obtain ⟨hb2, hz2⟩ := HST.out _ _ _ hb1 hz1 hB2; obtain ⟨r0, r1, r2, hBw2⟩ := HCP.out w2 hb2)
          | (go_at_call 12; refine (H12.out _ (HFI.out _ hBw2).1).mono ?_; rintro e w3 ⟨rfl, hB3⟩; obtain ⟨hb3, hz3⟩ := HST.out _ _ _ hb2 hz2 hB3; obtain ⟨s0, s1, s2, hBw3⟩ := HCP.out w3 hb3)
          | (go_at_call 13; refine (H13.out _ (HFI.out _ hBw3).1 (HFI.out _ hBw3).2.1 (HFI.out _ hBw3).2.2).mono ?_; rintro e w4 ⟨rfl, hB4⟩; obtain ⟨hb4, hz4⟩ := HST.out _ _ _ hb3 hz3 hB4; obtain ⟨t0, t1, t2, hBw4⟩ := HCP.out w4 hb4)
          | (go_at_call 14; refine (H14.out _ (HFI.out _ hBw4).1 (HFI.out _ hBw4).2.1 (HFI.out _ hBw4).2.2).mono ?_; rintro e w5 ⟨rfl, hB5⟩; obtain ⟨hb5, hz5⟩ := HST.out _ _ _ hb4 hz4 hB5; obtain ⟨u0, u1, u2, hBw5⟩ := HCP.out w5 hb5)
          | (go_at_call 15; refine (H15.out _ (HFI.out _ hBw5).1 (HFI.out _ hBw5).2.1).mono ?_; rintro e w6 ⟨rfl, hB6⟩; obtain ⟨hb6, hz6⟩ := HST.out _ _ _ hb5 hz5 hB6; obtain ⟨v0, v1, v2, hBw6⟩ := HCP.out w6 hb6)
          | (go_at_call 16; refine (H16.out _ (HFI.out _ hBw6).1 (HFI.out _ hBw6).2.1).mono ?_; rintro e w7 ⟨rfl, hB7⟩; obtain ⟨hb7, hz7⟩ := HST.out _ _ _ hb6 hz6 hB7; obtain ⟨y0, y1, y2, hBw7⟩ := HCP.out w7 hb7)
          | (go_at_call 10; refine (H10.out _).mono ?_; rintro e w8 ⟨rfl, hB8⟩)
          | fail)
        refine bodyPost_ret (v := .bool true) (by simp [results, Try.results3, go_sem]) rfl ⟨rfl, hBw7.trans (hB8.mono hBw7.size)⟩
  · go_wp2_with (first
      | (go_at_call 10; refine (H10.out _).mono ?_; rintro e w2 ⟨rfl, hB2⟩)
      | fail)
    refine bodyPost_ret (v := .bool true) (by simp [results, Try.results3, go_sem]) rfl ⟨rfl, hBw1.trans (hB2.mono hBw1.size)⟩
end Go.Proofs.Ytfebhofihioaoaa
