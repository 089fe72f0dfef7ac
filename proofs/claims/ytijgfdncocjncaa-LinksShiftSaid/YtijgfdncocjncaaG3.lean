/- Law 3, the walk. -/
import Derived.Test.YtijgfdncocjncaaF3
import Derived.Test.YtijgfdncocjncaaD9
namespace Go.Proofs.Ytijgfdncocjncaa
set_option linter.unusedVariables false
set_option linter.unusedSimpArgs false
open Go Go.RowKit

theorem lckR_len (x : Wat) : (lckR x).1.length ≤ x.m := by
  unfold lckR
  split
  · exact lckI_len x x.m
  · simp
set_option maxRecDepth 100000 in
set_option maxHeartbeats 4000000 in
theorem any3 (x : Wat) (A B : Option Addr) (c d : Nat) (f t : Int) (w : World) (h64 : Wat64 x) (hW : WatAt w x A B) :
    Calls Try.prog 3 #[x.val A c B d, .agg #[I f, I t]] w fun e w' => e = .returned (.bool true) ∧ Below w.heap.size w w' := by
  obtain ⟨b1, z1, z2, hh⟩ : ∃ b1 z1 z2, hldR x f t = (b1, z1, z2) := ⟨_, _, _, rfl⟩
  obtain ⟨ls, z3, hl⟩ : ∃ ls z3, lckR x = (ls, z3) := ⟨_, _, rfl⟩
  have hlen : ls.length ≤ 9223372036854775807 := by
    have h1 := lckR_len x
    rw [hl] at h1
    have h2 := h64.elen
    exact Nat.le_trans h1 h2
  have H8 : Hid (∀ W, Calls Try.prog 8 #[x.val A c B d, I 40] W fun e w' => IsBool e ∧ Below W.heap.size W w') := Lib.hid fun W => large8 x A B c d 40 W h64
  have H9 := Lib.hid awake9
  have H10 : Hid (∀ W, WatAt W x A B → Calls Try.prog 10 #[x.val A c B d, .agg #[I f, I t]] W fun e w' => e = .returned (.tuple #[.bool b1, I z1, I z2]) ∧ Below W.heap.size W w') := Lib.hid fun W h => by have := holds10 x A B c d f t W h64 h; rw [hh] at this; exact this
  have H11 : Hid (∀ W, WatAt W x A B → Calls Try.prog 11 #[x.val A c B d, .agg #[I f, I t]] W fun e w' => e = .returned (.tuple #[.bool b1, I z1, I z2]) ∧ Below W.heap.size W w') := Lib.hid fun W h => by have := holds11 x A B c d f t W h64 h; rw [hh] at this; exact this
  have H12 : Hid (∀ W, WatAt W x A B → Calls Try.prog 12 #[x.val A c B d] W fun e w' => ∃ A' c', e = .returned (.tuple #[.slice A' ls.length c', I z3]) ∧ Ints w' w'.heap.size A' ls ∧ Below W.heap.size W w') := Lib.hid fun W h => by have := lacking12 x A B c d W h64 h; rw [hl] at this; exact this
  have H13 : Hid (∀ W, WatAt W x A B → Calls Try.prog 13 #[x.val A c B d] W fun e w' => ∃ A' c', e = .returned (.tuple #[.slice A' ls.length c', I z3]) ∧ Ints w' w'.heap.size A' ls ∧ Below W.heap.size W w') := Lib.hid fun W h => by have := lacking13 x A B c d W h64 h; rw [hl] at this; exact this
  have H14 : Hid (∀ A A' c c' W, Ints W W.heap.size A ls → Ints W W.heap.size A' ls → Calls Try.prog 14 #[.slice A ls.length c, .slice A' ls.length c'] W fun e w' => e = .returned (.bool true) ∧ Below W.heap.size W w') := Lib.hid fun A A' c c' W h h' => by have := ints14 A A' c c' ls ls W h h' hlen hlen; simpa using this
  have hv : x.val A c B d = .agg #[.slice A x.hb.length c, .slice B x.er.length d, I x.en] := rfl
  rw [hv] at H8 H10 H11 H12 H13 ⊢
  clear hv hh hl hlen
  have HW0 : Hid (WatAt ((w.alloc (.cells #[.slice A x.hb.length c, .slice B x.er.length d, I x.en] 25)).alloc (.cells #[I f, I t] 27)) x A B) := Lib.hid ((hW.below (below1 _ _)).below (below1 _ _))
  have HX0 : Hid (Box ((w.alloc (.cells #[.slice A x.hb.length c, .slice B x.er.length d, I x.en] 25)).alloc (.cells #[I f, I t] 27)) w.heap.size [.slice A x.hb.length c, .slice B x.er.length d, I x.en]) := Lib.hid ((Box.new w [.slice A x.hb.length c, .slice B x.er.length d, I x.en] 25).alloc _)
  have HY0 : Hid (Box ((w.alloc (.cells #[.slice A x.hb.length c, .slice B x.er.length d, I x.en] 25)).alloc (.cells #[I f, I t] 27)) (w.heap.size + 1) [I f, I t]) := Lib.hid (by have := Box.new (w.alloc (.cells #[.slice A x.hb.length c, .slice B x.er.length d, I x.en] 25)) [I f, I t] 27; rw [World.size_alloc] at this; exact this)
  have HB0 : Hid (Below w.heap.size w ((w.alloc (.cells #[.slice A x.hb.length c, .slice B x.er.length d, I x.en] 25)).alloc (.cells #[I f, I t] 27))) := Lib.hid (by (repeat' (first | assumption | exact Below.refl _ _ | refine Below.drew ?_ | refine below_drewN ?_ _ | refine Below.setCell ?_ (by first | omega | (simp; done) | (simp; omega)) _ | refine Below.alloc ?_ (by first | omega | (simp; done) | (simp; omega)) _ | refine Below.trans ?_ (Below.mono (by assumption) (by first | omega | (simp; done) | (simp; omega))))))
  obtain ⟨m0, _⟩ := HX0.out.at_ 0 _ rfl
  obtain ⟨m1, _⟩ := HX0.out.at_ 1 _ rfl
  obtain ⟨m2, _⟩ := HX0.out.at_ 2 _ rfl
  obtain ⟨k0, _⟩ := HY0.out.at_ 0 _ rfl
  obtain ⟨k1, _⟩ := HY0.out.at_ 1 _ rfl
  clear hW
  go_enter Try.func3, Try.ntmps3
  go_wp2_with (first
    | (go_at_call 8; refine (H8.out _).mono ?_; rintro e w1 ⟨⟨b8, rfl⟩, hB⟩; clear H8; replace HB0 := Lib.hid (HB0.out.trans (hB.mono HB0.out.size)); replace HW0 := Lib.hid (HW0.out.below hB); replace HX0 := Lib.hid (HX0.out.call hB); replace HY0 := Lib.hid (HY0.out.call hB); clear m0 m1 m2 k0 k1; obtain ⟨m0, _⟩ := HX0.out.at_ 0 _ rfl; obtain ⟨m1, _⟩ := HX0.out.at_ 1 _ rfl; obtain ⟨m2, _⟩ := HX0.out.at_ 2 _ rfl; obtain ⟨k0, _⟩ := HY0.out.at_ 0 _ rfl; obtain ⟨k1, _⟩ := HY0.out.at_ 1 _ rfl; clear hB)
    | (go_at_call 10; refine (H10.out _ HW0.out).mono ?_; rintro e w1 ⟨rfl, hB⟩; clear H10; replace HB0 := Lib.hid (HB0.out.trans (hB.mono HB0.out.size)); replace HW0 := Lib.hid (HW0.out.below hB); replace HX0 := Lib.hid (HX0.out.call hB); replace HY0 := Lib.hid (HY0.out.call hB); clear m0 m1 m2 k0 k1; obtain ⟨m0, _⟩ := HX0.out.at_ 0 _ rfl; obtain ⟨m1, _⟩ := HX0.out.at_ 1 _ rfl; obtain ⟨m2, _⟩ := HX0.out.at_ 2 _ rfl; obtain ⟨k0, _⟩ := HY0.out.at_ 0 _ rfl; obtain ⟨k1, _⟩ := HY0.out.at_ 1 _ rfl; clear hB)
    | (go_at_call 11; refine (H11.out _ HW0.out).mono ?_; rintro e w1 ⟨rfl, hB⟩; clear H11; replace HB0 := Lib.hid (HB0.out.trans (hB.mono HB0.out.size)); replace HW0 := Lib.hid (HW0.out.below hB); replace HX0 := Lib.hid (HX0.out.call hB); replace HY0 := Lib.hid (HY0.out.call hB); clear m0 m1 m2 k0 k1; obtain ⟨m0, _⟩ := HX0.out.at_ 0 _ rfl; obtain ⟨m1, _⟩ := HX0.out.at_ 1 _ rfl; obtain ⟨m2, _⟩ := HX0.out.at_ 2 _ rfl; obtain ⟨k0, _⟩ := HY0.out.at_ 0 _ rfl; obtain ⟨k1, _⟩ := HY0.out.at_ 1 _ rfl; clear hB)
    | (go_at_call 12; refine (H12.out _ HW0.out).mono ?_; rintro e w1 ⟨A2, c2, rfl, hi2, hB⟩; clear H12; have HI2 := Lib.hid hi2; clear hi2; replace HB0 := Lib.hid (HB0.out.trans (hB.mono HB0.out.size)); replace HW0 := Lib.hid (HW0.out.below hB); replace HX0 := Lib.hid (HX0.out.call hB); replace HY0 := Lib.hid (HY0.out.call hB); clear m0 m1 m2 k0 k1; obtain ⟨m0, _⟩ := HX0.out.at_ 0 _ rfl; obtain ⟨m1, _⟩ := HX0.out.at_ 1 _ rfl; obtain ⟨m2, _⟩ := HX0.out.at_ 2 _ rfl; obtain ⟨k0, _⟩ := HY0.out.at_ 0 _ rfl; obtain ⟨k1, _⟩ := HY0.out.at_ 1 _ rfl; clear hB)
    | (go_at_call 13; refine (H13.out _ HW0.out).mono ?_; rintro e w1 ⟨A3, c3, rfl, hi3, hB⟩; clear H13; have HI3 := Lib.hid hi3; clear hi3; replace HI2 := Lib.hid ((HI2.out.below hB).more hB.size); replace HB0 := Lib.hid (HB0.out.trans (hB.mono HB0.out.size)); replace HW0 := Lib.hid (HW0.out.below hB); replace HX0 := Lib.hid (HX0.out.call hB); replace HY0 := Lib.hid (HY0.out.call hB); clear m0 m1 m2 k0 k1; obtain ⟨m0, _⟩ := HX0.out.at_ 0 _ rfl; obtain ⟨m1, _⟩ := HX0.out.at_ 1 _ rfl; obtain ⟨m2, _⟩ := HX0.out.at_ 2 _ rfl; obtain ⟨k0, _⟩ := HY0.out.at_ 0 _ rfl; obtain ⟨k1, _⟩ := HY0.out.at_ 1 _ rfl; clear hB)
    | (go_at_call 14; refine (H14.out _ _ _ _ _ HI2.out HI3.out).mono ?_; rintro e w1 ⟨rfl, hB⟩; clear H14; replace HB0 := Lib.hid (HB0.out.trans (hB.mono HB0.out.size)); replace HW0 := Lib.hid (HW0.out.below hB); replace HX0 := Lib.hid (HX0.out.call hB); replace HY0 := Lib.hid (HY0.out.call hB); clear m0 m1 m2 k0 k1; obtain ⟨m0, _⟩ := HX0.out.at_ 0 _ rfl; obtain ⟨m1, _⟩ := HX0.out.at_ 1 _ rfl; obtain ⟨m2, _⟩ := HX0.out.at_ 2 _ rfl; obtain ⟨k0, _⟩ := HY0.out.at_ 0 _ rfl; obtain ⟨k1, _⟩ := HY0.out.at_ 1 _ rfl; clear hB)
    | (go_at_call 9; refine (H9.out _).mono ?_; rintro e w1 ⟨rfl, hB⟩; clear H9; replace HB0 := Lib.hid (HB0.out.trans (hB.mono HB0.out.size)); replace HW0 := Lib.hid (HW0.out.below hB); replace HX0 := Lib.hid (HX0.out.call hB); replace HY0 := Lib.hid (HY0.out.call hB); clear m0 m1 m2 k0 k1; obtain ⟨m0, _⟩ := HX0.out.at_ 0 _ rfl; obtain ⟨m1, _⟩ := HX0.out.at_ 1 _ rfl; obtain ⟨m2, _⟩ := HX0.out.at_ 2 _ rfl; obtain ⟨k0, _⟩ := HY0.out.at_ 0 _ rfl; obtain ⟨k1, _⟩ := HY0.out.at_ 1 _ rfl; clear hB)
    | fail)
  all_goals first
    | (refine bodyPost_ret (v := .bool true) ?_ rfl ⟨rfl, HB0.out⟩; simp [results, Try.results3, go_sem]; done)
end Go.Proofs.Ytijgfdncocjncaa
