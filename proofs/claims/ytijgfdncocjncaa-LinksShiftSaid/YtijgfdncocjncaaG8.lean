/- Law 5, the walks: the links that are returned explain the watch, and no set of fewer does. -/
import Derived.Test.YtijgfdncocjncaaG7
import Derived.Test.YtijgfdncocjncaaF3
namespace Go.Proofs.Ytijgfdncocjncaa
set_option linter.unusedVariables false
set_option linter.unusedSimpArgs false
open Go Go.RowKit

theorem fewR_of {x : Wat} {o : List (Int × Int)} (hw : watB x = true) (h : fewTo x x.n = some o) : fewR x = (o, 0) := by unfold fewR; rw [hw, h]; rfl
theorem fewR_none {x : Wat} (hw : watB x = true) (h : fewTo x x.n = none) : fewR x = ([], 4) := by unfold fewR; rw [hw, h]; rfl
theorem nedR_of {x : Wat} {o : List (Int × Int)} (hw : watB x = true) (h : nedTo x x.n = some o) : nedR x = (o, 0) := by unfold nedR; rw [hw, h]; rfl
theorem nedR_none {x : Wat} (hw : watB x = true) (h : nedTo x x.n = none) : nedR x = ([], 4) := by unfold nedR; rw [hw, h]; rfl
theorem lckR_of {x : Wat} (hw : watB x = true) : lckR x = ((lckTo x x.m).map fun i : Nat => (i : Int), 0) := by unfold lckR; rw [hw]; rfl
theorem bad_R {x : Wat} (hw : watB x = false) : fewR x = ([], 1) ∧ nedR x = ([], 1) ∧ lckR x = ([], 1) := by unfold fewR nedR lckR; rw [hw]; exact ⟨rfl, rfl, rfl⟩
def lrgB (x : Wat) (n : Int) : Bool := decide (8 < (x.hb.length : Int)) || (decide (n < (x.er.length : Int)) && decide ((x.er.length : Int) ≤ 64) || decide (68 < (x.er.length : Int)))
set_option maxRecDepth 100000 in
set_option maxHeartbeats 4000000 in
theorem large8b (x : Wat) (A B : Option Addr) (c d : Nat) (n : Int) (w : World) (h64 : Wat64 x) : Calls Try.prog 8 #[x.val A c B d, I n] w fun e w' => e = .returned (.bool (lrgB x n)) ∧ Below w.heap.size w w' := by
  have HXc : Hid (Box (w.alloc (.cells #[.slice A x.hb.length c, .slice B x.er.length d, I x.en] 25)) w.heap.size [.slice A x.hb.length c, .slice B x.er.length d, I x.en]) := Lib.hid (Box.new w [.slice A x.hb.length c, .slice B x.er.length d, I x.en] 25)
  have hB := below1 w (.cells #[.slice A x.hb.length c, .slice B x.er.length d, I x.en] 25)
  obtain ⟨m0, _⟩ := HXc.out.at_ 0 _ rfl
  obtain ⟨m1, _⟩ := HXc.out.at_ 1 _ rfl
  have hl1 := h64.hlen
  have hl2 := h64.elen
  rw [show x.val A c B d = .agg #[.slice A x.hb.length c, .slice B x.er.length d, I x.en] from rfl]
  unfold lrgB
  cases g1 : decide (8 < (x.hb.length : Int))
  · cases g2 : decide (n < (x.er.length : Int))
    · go_enter Try.func8, Try.ntmps8
      go_wp2_with (fail)
      all_goals (refine bodyPost_ret (v := .bool (decide (68 < (x.er.length : Int)))) ?_ rfl ⟨by simp, hB⟩; simp [results, Try.results8, go_sem]; done)
    · cases g3 : decide ((x.er.length : Int) ≤ 64)
      · go_enter Try.func8, Try.ntmps8
        go_wp2_with (fail)
        all_goals (refine bodyPost_ret (v := .bool (decide (68 < (x.er.length : Int)))) ?_ rfl ⟨by simp, hB⟩; simp [results, Try.results8, go_sem]; done)
      · go_enter Try.func8, Try.ntmps8
        go_wp2_with (fail)
        all_goals (refine bodyPost_ret (v := .bool true) ?_ rfl ⟨by simp, hB⟩; simp [results, Try.results8, go_sem]; done)
  · go_enter Try.func8, Try.ntmps8
    go_wp2_with (fail)
    all_goals (refine bodyPost_ret (v := .bool true) ?_ rfl ⟨by simp, hB⟩; simp [results, Try.results8, go_sem]; done)
set_option maxRecDepth 100000 in
set_option maxHeartbeats 8000000 in
theorem any5_large (x : Wat) (A B : Option Addr) (c d b : Nat) (w : World) (h64 : Wat64 x) (hW : WatAt w x A B) (hb : b < 4294967296) (hlg : lrgB x 40 = true) :
    Calls Try.prog 5 #[x.val A c B d, .int .u32 b] w fun e w' => e = .returned (.bool true) ∧ Below w.heap.size w w' := by
  have H8 : Hid (∀ W, Calls Try.prog 8 #[x.val A c B d, I 40] W fun e w' => e = .returned (.bool true) ∧ Below W.heap.size W w') := Lib.hid fun W => by have h := large8b x A B c d 40 W h64; rw [hlg] at h; exact h
  have H9 := Lib.hid awake9
  have hv : x.val A c B d = .agg #[.slice A x.hb.length c, .slice B x.er.length d, I x.en] := rfl
  rw [hv] at H8 ⊢
  clear hv
  have HW0 : Hid (WatAt (w.alloc (.cells #[.slice A x.hb.length c, .slice B x.er.length d, I x.en] 25)) x A B) := Lib.hid (hW.below (below1 _ _))
  have HX0 : Hid (Box (w.alloc (.cells #[.slice A x.hb.length c, .slice B x.er.length d, I x.en] 25)) w.heap.size [.slice A x.hb.length c, .slice B x.er.length d, I x.en]) := Lib.hid (Box.new w [.slice A x.hb.length c, .slice B x.er.length d, I x.en] 25)
  have HB0 : Hid (Below w.heap.size w (w.alloc (.cells #[.slice A x.hb.length c, .slice B x.er.length d, I x.en] 25))) := Lib.hid (by (repeat' (first | assumption | exact Below.refl _ _ | refine Below.drew ?_ | refine below_drewN ?_ _ | refine Below.setCell ?_ (by first | omega | (simp; done) | (simp; omega)) _ | refine Below.alloc ?_ (by first | omega | (simp; done) | (simp; omega)) _ | refine Below.trans ?_ (Below.mono (by assumption) (by first | omega | (simp; done) | (simp; omega))))))
  obtain ⟨m0, _⟩ := HX0.out.at_ 0 _ rfl
  obtain ⟨m1, _⟩ := HX0.out.at_ 1 _ rfl
  obtain ⟨m2, _⟩ := HX0.out.at_ 2 _ rfl
  clear hW
  go_enter Try.func5, Try.ntmps5
  go_wp2_with (first
    | (go_at_call 8; refine (H8.out _).mono ?_; rintro e w1 ⟨rfl, hB⟩; clear H8; replace HB0 := Lib.hid (HB0.out.trans (hB.mono HB0.out.size)); replace HW0 := Lib.hid (HW0.out.below hB); replace HX0 := Lib.hid (HX0.out.call hB); clear m0 m1 m2; obtain ⟨m0, _⟩ := HX0.out.at_ 0 _ rfl; obtain ⟨m1, _⟩ := HX0.out.at_ 1 _ rfl; obtain ⟨m2, _⟩ := HX0.out.at_ 2 _ rfl; clear hB)
    | (go_at_call 9; refine (H9.out _).mono ?_; rintro e w1 ⟨rfl, hB⟩; clear H9; replace HB0 := Lib.hid (HB0.out.trans (hB.mono HB0.out.size)); replace HW0 := Lib.hid (HW0.out.below hB); replace HX0 := Lib.hid (HX0.out.call hB); clear m0 m1 m2; obtain ⟨m0, _⟩ := HX0.out.at_ 0 _ rfl; obtain ⟨m1, _⟩ := HX0.out.at_ 1 _ rfl; obtain ⟨m2, _⟩ := HX0.out.at_ 2 _ rfl; clear hB)
    | fail)
  exact bodyPost_ret (v := .bool true) (by simp [results, Try.results5, go_sem]) rfl ⟨rfl, HB0.out⟩
set_option maxRecDepth 100000 in
set_option maxHeartbeats 8000000 in
theorem any5_bad (x : Wat) (A B : Option Addr) (c d b : Nat) (w : World) (h64 : Wat64 x) (hW : WatAt w x A B) (hb : b < 4294967296) (hlg : lrgB x 40 = false) (hwb : watB x = false) :
    Calls Try.prog 5 #[x.val A c B d, .int .u32 b] w fun e w' => e = .returned (.bool true) ∧ Below w.heap.size w w' := by
  have H8 : Hid (∀ W, Calls Try.prog 8 #[x.val A c B d, I 40] W fun e w' => e = .returned (.bool false) ∧ Below W.heap.size W w') := Lib.hid fun W => by have h := large8b x A B c d 40 W h64; rw [hlg] at h; exact h
  obtain ⟨e1, e2, e3⟩ := bad_R hwb
  have H15 : Hid (∀ W, WatAt W x A B → Calls Try.prog 15 #[x.val A c B d] W fun e w' => ∃ A' c', e = .returned (.tuple #[.slice A' 0 c', I 1]) ∧ Below W.heap.size W w') := Lib.hid fun W h => by have := fewest15 x A B c d W h64 h; rw [e1] at this; exact this.mono fun e w' ⟨A', c', h1, _, h2⟩ => ⟨A', c', h1, h2⟩
  have H17 : Hid (∀ W, WatAt W x A B → Calls Try.prog 17 #[x.val A c B d] W fun e w' => ∃ A' c', e = .returned (.tuple #[.slice A' 0 c', I 1]) ∧ Below W.heap.size W w') := Lib.hid fun W h => by have := needed17 x A B c d W h64 h; rw [e2] at this; exact this.mono fun e w' ⟨A', c', h1, _, h2⟩ => ⟨A', c', h1, h2⟩
  have H12 : Hid (∀ W, WatAt W x A B → Calls Try.prog 12 #[x.val A c B d] W fun e w' => ∃ A' c', e = .returned (.tuple #[.slice A' 0 c', I 1]) ∧ Below W.heap.size W w') := Lib.hid fun W h => by have := lacking12 x A B c d W h64 h; rw [e3] at this; exact this.mono fun e w' ⟨A', c', h1, _, h2⟩ => ⟨A', c', h1, h2⟩
  clear e1 e2 e3
  have H9 := Lib.hid awake9
  have hv : x.val A c B d = .agg #[.slice A x.hb.length c, .slice B x.er.length d, I x.en] := rfl
  rw [hv] at H8 H15 H17 H12 ⊢
  clear hv
  have HW0 : Hid (WatAt (w.alloc (.cells #[.slice A x.hb.length c, .slice B x.er.length d, I x.en] 25)) x A B) := Lib.hid (hW.below (below1 _ _))
  have HX0 : Hid (Box (w.alloc (.cells #[.slice A x.hb.length c, .slice B x.er.length d, I x.en] 25)) w.heap.size [.slice A x.hb.length c, .slice B x.er.length d, I x.en]) := Lib.hid (Box.new w [.slice A x.hb.length c, .slice B x.er.length d, I x.en] 25)
  have HB0 : Hid (Below w.heap.size w (w.alloc (.cells #[.slice A x.hb.length c, .slice B x.er.length d, I x.en] 25))) := Lib.hid (by (repeat' (first | assumption | exact Below.refl _ _ | refine Below.drew ?_ | refine below_drewN ?_ _ | refine Below.setCell ?_ (by first | omega | (simp; done) | (simp; omega)) _ | refine Below.alloc ?_ (by first | omega | (simp; done) | (simp; omega)) _ | refine Below.trans ?_ (Below.mono (by assumption) (by first | omega | (simp; done) | (simp; omega))))))
  obtain ⟨m0, _⟩ := HX0.out.at_ 0 _ rfl
  obtain ⟨m1, _⟩ := HX0.out.at_ 1 _ rfl
  obtain ⟨m2, _⟩ := HX0.out.at_ 2 _ rfl
  clear hW
  go_enter Try.func5, Try.ntmps5
  go_wp2_with (first
    | (go_at_call 8; refine (H8.out _).mono ?_; rintro e w1 ⟨rfl, hB⟩; clear H8; replace HB0 := Lib.hid (HB0.out.trans (hB.mono HB0.out.size)); replace HW0 := Lib.hid (HW0.out.below hB); replace HX0 := Lib.hid (HX0.out.call hB); clear m0 m1 m2; obtain ⟨m0, _⟩ := HX0.out.at_ 0 _ rfl; obtain ⟨m1, _⟩ := HX0.out.at_ 1 _ rfl; obtain ⟨m2, _⟩ := HX0.out.at_ 2 _ rfl; clear hB)
    | (go_at_call 15; refine (H15.out _ HW0.out).mono ?_; rintro e w1 ⟨A15, c15, rfl, hB⟩; clear H15; replace HB0 := Lib.hid (HB0.out.trans (hB.mono HB0.out.size)); replace HW0 := Lib.hid (HW0.out.below hB); replace HX0 := Lib.hid (HX0.out.call hB); clear m0 m1 m2; obtain ⟨m0, _⟩ := HX0.out.at_ 0 _ rfl; obtain ⟨m1, _⟩ := HX0.out.at_ 1 _ rfl; obtain ⟨m2, _⟩ := HX0.out.at_ 2 _ rfl; clear hB)
    | (go_at_call 17; refine (H17.out _ HW0.out).mono ?_; rintro e w1 ⟨A17, c17, rfl, hB⟩; clear H17; replace HB0 := Lib.hid (HB0.out.trans (hB.mono HB0.out.size)); replace HW0 := Lib.hid (HW0.out.below hB); replace HX0 := Lib.hid (HX0.out.call hB); clear m0 m1 m2; obtain ⟨m0, _⟩ := HX0.out.at_ 0 _ rfl; obtain ⟨m1, _⟩ := HX0.out.at_ 1 _ rfl; obtain ⟨m2, _⟩ := HX0.out.at_ 2 _ rfl; clear hB)
    | (go_at_call 12; refine (H12.out _ HW0.out).mono ?_; rintro e w1 ⟨A12, c12, rfl, hB⟩; clear H12; replace HB0 := Lib.hid (HB0.out.trans (hB.mono HB0.out.size)); replace HW0 := Lib.hid (HW0.out.below hB); replace HX0 := Lib.hid (HX0.out.call hB); clear m0 m1 m2; obtain ⟨m0, _⟩ := HX0.out.at_ 0 _ rfl; obtain ⟨m1, _⟩ := HX0.out.at_ 1 _ rfl; obtain ⟨m2, _⟩ := HX0.out.at_ 2 _ rfl; clear hB)
    | (go_at_call 9; refine (H9.out _).mono ?_; rintro e w1 ⟨rfl, hB⟩; clear H9; replace HB0 := Lib.hid (HB0.out.trans (hB.mono HB0.out.size)); replace HW0 := Lib.hid (HW0.out.below hB); replace HX0 := Lib.hid (HX0.out.call hB); clear m0 m1 m2; obtain ⟨m0, _⟩ := HX0.out.at_ 0 _ rfl; obtain ⟨m1, _⟩ := HX0.out.at_ 1 _ rfl; obtain ⟨m2, _⟩ := HX0.out.at_ 2 _ rfl; clear hB)
    | fail)
  exact bodyPost_ret (v := .bool true) (by simp [results, Try.results5, go_sem]) rfl ⟨rfl, HB0.out⟩
set_option maxRecDepth 100000 in
set_option maxHeartbeats 8000000 in
theorem any5_none (x : Wat) (A B : Option Addr) (c d b : Nat) (w : World) (h64 : Wat64 x) (hW : WatAt w x A B) (hb : b < 4294967296) (hlg : lrgB x 40 = false) (hwb : watB x = true) (hn : fewTo x x.n = none) :
    Calls Try.prog 5 #[x.val A c B d, .int .u32 b] w fun e w' => e = .returned (.bool true) ∧ Below w.heap.size w w' := by
  have hx := watB_iff.1 hwb
  have H8 : Hid (∀ W, Calls Try.prog 8 #[x.val A c B d, I 40] W fun e w' => e = .returned (.bool false) ∧ Below W.heap.size W w') := Lib.hid fun W => by have h := large8b x A B c d 40 W h64; rw [hlg] at h; exact h
  have e1 := fewR_none hwb hn
  have e2 := nedR_none hwb (few_ned_none.1 hn)
  obtain ⟨ls, hls⟩ : ∃ ls, ((lckTo x x.m).map fun i : Nat => (i : Int)) = ls := ⟨_, rfl⟩
  have e3 := lckR_of hwb
  rw [hls] at e3
  have hlsn : ls.length ≠ 0 := by
    have h := (lck_none hx).1 hn
    rw [← hls, List.length_map]
    exact fun h0 => h (List.eq_nil_of_length_eq_zero h0)
  have HNOT := Lib.hid fun (S : List (Int × Int)) (hS : LnkOk x S) => few_not hS hn
  have H15 : Hid (∀ W, WatAt W x A B → Calls Try.prog 15 #[x.val A c B d] W fun e w' => ∃ A' c', e = .returned (.tuple #[.slice A' 0 c', I 4]) ∧ Below W.heap.size W w') := Lib.hid fun W h => by have := fewest15 x A B c d W h64 h; rw [e1] at this; exact this.mono fun e w' ⟨A', c', h1, _, h2⟩ => ⟨A', c', h1, h2⟩
  have H17 : Hid (∀ W, WatAt W x A B → Calls Try.prog 17 #[x.val A c B d] W fun e w' => ∃ A' c', e = .returned (.tuple #[.slice A' 0 c', I 4]) ∧ Below W.heap.size W w') := Lib.hid fun W h => by have := needed17 x A B c d W h64 h; rw [e2] at this; exact this.mono fun e w' ⟨A', c', h1, _, h2⟩ => ⟨A', c', h1, h2⟩
  have H12 : Hid (∀ W, WatAt W x A B → Calls Try.prog 12 #[x.val A c B d] W fun e w' => ∃ A' c', e = .returned (.tuple #[.slice A' ls.length c', I 0]) ∧ Ints w' w'.heap.size A' ls ∧ Below W.heap.size W w') := Lib.hid fun W h => by have := lacking12 x A B c d W h64 h; rw [e3] at this; exact this
  have H20 : Hid (∀ W, WatAt W x A B → Calls Try.prog 20 #[x.val A c B d] W fun e w' => e = .returned (.bool true) ∧ Below W.heap.size W w') := Lib.hid fun W h => by have h := watch20 x A B c d W h64 h; rw [hwb] at h; exact h
  have H21 : Hid (∀ W, Calls Try.prog 21 #[x.val A c B d, .int .u32 b] W fun e w' => ∃ A' c' S, e = .returned (.slice A' S.length c') ∧ Twos w' w'.heap.size A' S ∧ LnkOk x S ∧ S.length ≤ 36 ∧ Below W.heap.size W w') := Lib.hid fun W => some21 x A B c d b W hx.n6 hb
  have H22 : Hid (∀ (C : Option Addr) (cs : Nat) (S : List (Int × Int)) W, WatAt W x A B → Twos W W.heap.size C S → LnkOk x S → S.length ≤ 1000 → Calls Try.prog 22 #[x.val A c B d, .slice C S.length cs] W fun e w' => e = .returned (.bool (explL x S)) ∧ Below W.heap.size W w') := Lib.hid fun C cs S W h1 h2 h3 h4 => explains22 x A B c d C cs S W hx h1 h2 h3 h4
  have hlb : ((ls.length : Int) == 0) = false := beq_eq_false_iff_ne.2 (by omega)
  clear e1 e2 e3 hls hx hn
  have H9 := Lib.hid awake9
  have hv : x.val A c B d = .agg #[.slice A x.hb.length c, .slice B x.er.length d, I x.en] := rfl
  rw [hv] at H8 H15 H17 H12 H20 H21 H22 ⊢
  clear hv
  have HW0 : Hid (WatAt (w.alloc (.cells #[.slice A x.hb.length c, .slice B x.er.length d, I x.en] 25)) x A B) := Lib.hid (hW.below (below1 _ _))
  have HX0 : Hid (Box (w.alloc (.cells #[.slice A x.hb.length c, .slice B x.er.length d, I x.en] 25)) w.heap.size [.slice A x.hb.length c, .slice B x.er.length d, I x.en]) := Lib.hid (Box.new w [.slice A x.hb.length c, .slice B x.er.length d, I x.en] 25)
  have HB0 : Hid (Below w.heap.size w (w.alloc (.cells #[.slice A x.hb.length c, .slice B x.er.length d, I x.en] 25))) := Lib.hid (by (repeat' (first | assumption | exact Below.refl _ _ | refine Below.drew ?_ | refine below_drewN ?_ _ | refine Below.setCell ?_ (by first | omega | (simp; done) | (simp; omega)) _ | refine Below.alloc ?_ (by first | omega | (simp; done) | (simp; omega)) _ | refine Below.trans ?_ (Below.mono (by assumption) (by first | omega | (simp; done) | (simp; omega))))))
  obtain ⟨m0, _⟩ := HX0.out.at_ 0 _ rfl
  obtain ⟨m1, _⟩ := HX0.out.at_ 1 _ rfl
  obtain ⟨m2, _⟩ := HX0.out.at_ 2 _ rfl
  clear hW
  go_enter Try.func5, Try.ntmps5
  go_wp2_with (first
    | (go_at_call 8; refine (H8.out _).mono ?_; rintro e w1 ⟨rfl, hB⟩; clear H8; replace HB0 := Lib.hid (HB0.out.trans (hB.mono HB0.out.size)); replace HW0 := Lib.hid (HW0.out.below hB); replace HX0 := Lib.hid (HX0.out.call hB); clear m0 m1 m2; obtain ⟨m0, _⟩ := HX0.out.at_ 0 _ rfl; obtain ⟨m1, _⟩ := HX0.out.at_ 1 _ rfl; obtain ⟨m2, _⟩ := HX0.out.at_ 2 _ rfl; clear hB)
    | (go_at_call 15; refine (H15.out _ HW0.out).mono ?_; rintro e w1 ⟨A15, c15, rfl, hB⟩; clear H15; replace HB0 := Lib.hid (HB0.out.trans (hB.mono HB0.out.size)); replace HW0 := Lib.hid (HW0.out.below hB); replace HX0 := Lib.hid (HX0.out.call hB); clear m0 m1 m2; obtain ⟨m0, _⟩ := HX0.out.at_ 0 _ rfl; obtain ⟨m1, _⟩ := HX0.out.at_ 1 _ rfl; obtain ⟨m2, _⟩ := HX0.out.at_ 2 _ rfl; clear hB)
    | (go_at_call 17; refine (H17.out _ HW0.out).mono ?_; rintro e w1 ⟨A17, c17, rfl, hB⟩; clear H17; replace HB0 := Lib.hid (HB0.out.trans (hB.mono HB0.out.size)); replace HW0 := Lib.hid (HW0.out.below hB); replace HX0 := Lib.hid (HX0.out.call hB); clear m0 m1 m2; obtain ⟨m0, _⟩ := HX0.out.at_ 0 _ rfl; obtain ⟨m1, _⟩ := HX0.out.at_ 1 _ rfl; obtain ⟨m2, _⟩ := HX0.out.at_ 2 _ rfl; clear hB)
    | (go_at_call 12; refine (H12.out _ HW0.out).mono ?_; rintro e w1 ⟨A12, c12, rfl, ht, hB⟩; clear H12; clear ht; replace HB0 := Lib.hid (HB0.out.trans (hB.mono HB0.out.size)); replace HW0 := Lib.hid (HW0.out.below hB); replace HX0 := Lib.hid (HX0.out.call hB); clear m0 m1 m2; obtain ⟨m0, _⟩ := HX0.out.at_ 0 _ rfl; obtain ⟨m1, _⟩ := HX0.out.at_ 1 _ rfl; obtain ⟨m2, _⟩ := HX0.out.at_ 2 _ rfl; clear hB)
    | (go_at_call 20; refine (H20.out _ HW0.out).mono ?_; rintro e w1 ⟨rfl, hB⟩; clear H20; replace HB0 := Lib.hid (HB0.out.trans (hB.mono HB0.out.size)); replace HW0 := Lib.hid (HW0.out.below hB); replace HX0 := Lib.hid (HX0.out.call hB); clear m0 m1 m2; obtain ⟨m0, _⟩ := HX0.out.at_ 0 _ rfl; obtain ⟨m1, _⟩ := HX0.out.at_ 1 _ rfl; obtain ⟨m2, _⟩ := HX0.out.at_ 2 _ rfl; clear hB)
    | (go_at_call 21; refine (H21.out _).mono ?_; rintro e w1 ⟨AS, cS, S, rfl, htS, hokS, hslS, hB⟩; clear H21; have HTS := Lib.hid htS; have HOS := Lib.hid hokS; clear htS hokS; replace HB0 := Lib.hid (HB0.out.trans (hB.mono HB0.out.size)); replace HW0 := Lib.hid (HW0.out.below hB); replace HX0 := Lib.hid (HX0.out.call hB); clear m0 m1 m2; obtain ⟨m0, _⟩ := HX0.out.at_ 0 _ rfl; obtain ⟨m1, _⟩ := HX0.out.at_ 1 _ rfl; obtain ⟨m2, _⟩ := HX0.out.at_ 2 _ rfl; clear hB)
    | (go_at_call 22; refine (H22.out AS cS S _ HW0.out HTS.out HOS.out (by omega)).mono ?_; rw [HNOT.out S HOS.out]; rintro e w1 ⟨rfl, hB⟩; clear H22 HTS; replace HB0 := Lib.hid (HB0.out.trans (hB.mono HB0.out.size)); replace HW0 := Lib.hid (HW0.out.below hB); replace HX0 := Lib.hid (HX0.out.call hB); clear m0 m1 m2; obtain ⟨m0, _⟩ := HX0.out.at_ 0 _ rfl; obtain ⟨m1, _⟩ := HX0.out.at_ 1 _ rfl; obtain ⟨m2, _⟩ := HX0.out.at_ 2 _ rfl; clear hB)
    | (go_at_call 9; refine (H9.out _).mono ?_; rintro e w1 ⟨rfl, hB⟩; clear H9; replace HB0 := Lib.hid (HB0.out.trans (hB.mono HB0.out.size)); replace HW0 := Lib.hid (HW0.out.below hB); replace HX0 := Lib.hid (HX0.out.call hB); clear m0 m1 m2; obtain ⟨m0, _⟩ := HX0.out.at_ 0 _ rfl; obtain ⟨m1, _⟩ := HX0.out.at_ 1 _ rfl; obtain ⟨m2, _⟩ := HX0.out.at_ 2 _ rfl; clear hB)
    | fail)
  exact bodyPost_ret (v := .bool true) (by simp [results, Try.results5, go_sem]) rfl ⟨rfl, HB0.out⟩
end Go.Proofs.Ytijgfdncocjncaa
