/- Law 4, the walk. -/
import Derived.Test.YtijgfdncocjncaaF3
import Derived.Test.YtijgfdncocjncaaD15
namespace Go.Proofs.Ytijgfdncocjncaa
set_option linter.unusedVariables false
set_option linter.unusedSimpArgs false
open Go Go.RowKit

theorem lnk_le (t : Nat) (l : List Nat) : (lnk t l).length = l.length := by simp [lnk]
theorem fewTo_len (x : Wat) : ∀ (k : Nat) (o : List (Int × Int)), fewTo x k = some o → o.length ≤ x.n * k
  | 0, o, h => by
    simp only [fewTo, Option.some.injEq] at h
    subst h
    simp
  | k + 1, o, h => by
    unfold fewTo at h
    cases h1 : fewTo x k with
    | none => rw [h1] at h; cases h2 : fewT x k <;> rw [h2] at h <;> simp at h
    | some o1 =>
      cases h2 : fewT x k with
      | none => rw [h1, h2] at h; simp at h
      | some l =>
        rw [h1, h2] at h
        simp only [Option.some.injEq] at h
        have a := fewTo_len x k o1 h1
        have b := fewT_len h2
        rw [← h, List.length_append, lnk_le, Nat.mul_succ]
        omega
theorem nedTo_len (x : Wat) : ∀ (k : Nat) (o : List (Int × Int)), nedTo x k = some o → o.length ≤ x.n * k
  | 0, o, h => by
    simp only [nedTo, Option.some.injEq] at h
    subst h
    simp
  | k + 1, o, h => by
    unfold nedTo at h
    cases h1 : nedTo x k with
    | none => rw [h1] at h; cases h
    | some o1 =>
      rw [h1] at h
      dsimp only at h
      split at h
      · simp only [Option.some.injEq] at h
        have a := nedTo_len x k o1 h1
        have b : (nedT x k).length ≤ x.n := by
          unfold nedT
          exact Nat.le_trans (List.length_filter_le _ _) (srcs_len x k)
        rw [← h, List.length_append, lnk_le, Nat.mul_succ]
        omega
      · cases h
theorem sq_len {x : Wat} (h : x.n ≤ 6) {o : List (Int × Int)} (ho : o.length ≤ x.n * x.n) : o.length ≤ 36 := Nat.le_trans ho (Nat.mul_le_mul h h)
theorem fewR_len (x : Wat) : (fewR x).1.length ≤ 36 := by
  unfold fewR
  cases hw : watB x
  · simp
  · have hn := (watB_iff.1 hw).n6
    cases hf : fewTo x x.n with
    | none => simp
    | some o => exact sq_len hn (fewTo_len x _ _ hf)
theorem nedR_len (x : Wat) : (nedR x).1.length ≤ 36 := by
  unfold nedR
  cases hw : watB x
  · simp
  · have hn := (watB_iff.1 hw).n6
    cases hf : nedTo x x.n with
    | none => simp
    | some o => exact sq_len hn (nedTo_len x _ _ hf)
set_option maxRecDepth 100000 in
set_option maxHeartbeats 4000000 in
theorem any4 (x : Wat) (A B : Option Addr) (c d : Nat) (w : World) (h64 : Wat64 x) (hW : WatAt w x A B) :
    Calls Try.prog 4 #[x.val A c B d] w fun e w' => e = .returned (.bool true) ∧ Below w.heap.size w w' := by
  obtain ⟨fs, z1, hf⟩ : ∃ fs z1, fewR x = (fs, z1) := ⟨_, _, rfl⟩
  obtain ⟨ns, z2, hn⟩ : ∃ ns z2, nedR x = (ns, z2) := ⟨_, _, rfl⟩
  have hfl : fs.length ≤ 9223372036854775807 := by
    have h1 := fewR_len x
    rw [hf] at h1
    exact Nat.le_trans h1 (by decide)
  have hnl : ns.length ≤ 9223372036854775807 := by
    have h1 := nedR_len x
    rw [hn] at h1
    exact Nat.le_trans h1 (by decide)
  have H8 : Hid (∀ W, Calls Try.prog 8 #[x.val A c B d, I 30] W fun e w' => IsBool e ∧ Below W.heap.size W w') := Lib.hid fun W => large8 x A B c d 30 W h64
  have H9 := Lib.hid awake9
  have H15 : Hid (∀ W, WatAt W x A B → Calls Try.prog 15 #[x.val A c B d] W fun e w' => ∃ A' c', e = .returned (.tuple #[.slice A' fs.length c', I z1]) ∧ Twos w' w'.heap.size A' fs ∧ Below W.heap.size W w') := Lib.hid fun W h => by have := fewest15 x A B c d W h64 h; rw [hf] at this; exact this
  have H16 : Hid (∀ W, WatAt W x A B → Calls Try.prog 16 #[x.val A c B d] W fun e w' => ∃ A' c', e = .returned (.tuple #[.slice A' fs.length c', I z1]) ∧ Twos w' w'.heap.size A' fs ∧ Below W.heap.size W w') := Lib.hid fun W h => by have := fewest16 x A B c d W h64 h; rw [hf] at this; exact this
  have H17 : Hid (∀ W, WatAt W x A B → Calls Try.prog 17 #[x.val A c B d] W fun e w' => ∃ A' c', e = .returned (.tuple #[.slice A' ns.length c', I z2]) ∧ Twos w' w'.heap.size A' ns ∧ Below W.heap.size W w') := Lib.hid fun W h => by have := needed17 x A B c d W h64 h; rw [hn] at this; exact this
  have H18 : Hid (∀ W, WatAt W x A B → Calls Try.prog 18 #[x.val A c B d] W fun e w' => ∃ A' c', e = .returned (.tuple #[.slice A' ns.length c', I z2]) ∧ Twos w' w'.heap.size A' ns ∧ Below W.heap.size W w') := Lib.hid fun W h => by have := needed18 x A B c d W h64 h; rw [hn] at this; exact this
  have H19f : Hid (∀ A A' c c' W, Twos W W.heap.size A fs → Twos W W.heap.size A' fs → Calls Try.prog 19 #[.slice A fs.length c, .slice A' fs.length c'] W fun e w' => e = .returned (.bool true) ∧ Below W.heap.size W w') := Lib.hid fun A A' c c' W h h' => by have := links19 A A' c c' fs fs W h h' hfl hfl; simpa using this
  have H19n : Hid (∀ A A' c c' W, Twos W W.heap.size A ns → Twos W W.heap.size A' ns → Calls Try.prog 19 #[.slice A ns.length c, .slice A' ns.length c'] W fun e w' => e = .returned (.bool true) ∧ Below W.heap.size W w') := Lib.hid fun A A' c c' W h h' => by have := links19 A A' c c' ns ns W h h' hnl hnl; simpa using this
  have hv : x.val A c B d = .agg #[.slice A x.hb.length c, .slice B x.er.length d, I x.en] := rfl
  rw [hv] at H8 H15 H16 H17 H18 ⊢
  clear hv hf hn hfl hnl
  have HW0 : Hid (WatAt (w.alloc (.cells #[.slice A x.hb.length c, .slice B x.er.length d, I x.en] 25)) x A B) := Lib.hid (hW.below (below1 _ _))
  have HX0 : Hid (Box (w.alloc (.cells #[.slice A x.hb.length c, .slice B x.er.length d, I x.en] 25)) w.heap.size [.slice A x.hb.length c, .slice B x.er.length d, I x.en]) := Lib.hid (Box.new w [.slice A x.hb.length c, .slice B x.er.length d, I x.en] 25)
  have HB0 : Hid (Below w.heap.size w (w.alloc (.cells #[.slice A x.hb.length c, .slice B x.er.length d, I x.en] 25))) := Lib.hid (by (repeat' (first | assumption | exact Below.refl _ _ | refine Below.drew ?_ | refine below_drewN ?_ _ | refine Below.setCell ?_ (by first | omega | (simp; done) | (simp; omega)) _ | refine Below.alloc ?_ (by first | omega | (simp; done) | (simp; omega)) _ | refine Below.trans ?_ (Below.mono (by assumption) (by first | omega | (simp; done) | (simp; omega))))))
  obtain ⟨m0, _⟩ := HX0.out.at_ 0 _ rfl
  obtain ⟨m1, _⟩ := HX0.out.at_ 1 _ rfl
  obtain ⟨m2, _⟩ := HX0.out.at_ 2 _ rfl
  clear hW
  go_enter Try.func4, Try.ntmps4
  go_wp2_with (first
    | (go_at_call 8; refine (H8.out _).mono ?_; rintro e w1 ⟨⟨b8, rfl⟩, hB⟩; clear H8; replace HB0 := Lib.hid (HB0.out.trans (hB.mono HB0.out.size)); replace HW0 := Lib.hid (HW0.out.below hB); replace HX0 := Lib.hid (HX0.out.call hB); clear m0 m1 m2; obtain ⟨m0, _⟩ := HX0.out.at_ 0 _ rfl; obtain ⟨m1, _⟩ := HX0.out.at_ 1 _ rfl; obtain ⟨m2, _⟩ := HX0.out.at_ 2 _ rfl; clear hB)
    | (go_at_call 15; refine (H15.out _ HW0.out).mono ?_; rintro e w1 ⟨A15, c15, rfl, ht, hB⟩; clear H15; have HT15 := Lib.hid ht; clear ht; replace HB0 := Lib.hid (HB0.out.trans (hB.mono HB0.out.size)); replace HW0 := Lib.hid (HW0.out.below hB); replace HX0 := Lib.hid (HX0.out.call hB); clear m0 m1 m2; obtain ⟨m0, _⟩ := HX0.out.at_ 0 _ rfl; obtain ⟨m1, _⟩ := HX0.out.at_ 1 _ rfl; obtain ⟨m2, _⟩ := HX0.out.at_ 2 _ rfl; clear hB)
    | (go_at_call 16; refine (H16.out _ HW0.out).mono ?_; rintro e w1 ⟨A16, c16, rfl, ht, hB⟩; clear H16; have HT16 := Lib.hid ht; clear ht; replace HT15 := Lib.hid ((HT15.out.below hB).more hB.size); replace HB0 := Lib.hid (HB0.out.trans (hB.mono HB0.out.size)); replace HW0 := Lib.hid (HW0.out.below hB); replace HX0 := Lib.hid (HX0.out.call hB); clear m0 m1 m2; obtain ⟨m0, _⟩ := HX0.out.at_ 0 _ rfl; obtain ⟨m1, _⟩ := HX0.out.at_ 1 _ rfl; obtain ⟨m2, _⟩ := HX0.out.at_ 2 _ rfl; clear hB)
    | (go_at_call 17; refine (H17.out _ HW0.out).mono ?_; rintro e w1 ⟨A17, c17, rfl, ht, hB⟩; clear H17; have HT17 := Lib.hid ht; clear ht; replace HT15 := Lib.hid ((HT15.out.below hB).more hB.size); replace HT16 := Lib.hid ((HT16.out.below hB).more hB.size); replace HB0 := Lib.hid (HB0.out.trans (hB.mono HB0.out.size)); replace HW0 := Lib.hid (HW0.out.below hB); replace HX0 := Lib.hid (HX0.out.call hB); clear m0 m1 m2; obtain ⟨m0, _⟩ := HX0.out.at_ 0 _ rfl; obtain ⟨m1, _⟩ := HX0.out.at_ 1 _ rfl; obtain ⟨m2, _⟩ := HX0.out.at_ 2 _ rfl; clear hB)
    | (go_at_call 18; refine (H18.out _ HW0.out).mono ?_; rintro e w1 ⟨A18, c18, rfl, ht, hB⟩; clear H18; have HT18 := Lib.hid ht; clear ht; replace HT15 := Lib.hid ((HT15.out.below hB).more hB.size); replace HT16 := Lib.hid ((HT16.out.below hB).more hB.size); replace HT17 := Lib.hid ((HT17.out.below hB).more hB.size); replace HB0 := Lib.hid (HB0.out.trans (hB.mono HB0.out.size)); replace HW0 := Lib.hid (HW0.out.below hB); replace HX0 := Lib.hid (HX0.out.call hB); clear m0 m1 m2; obtain ⟨m0, _⟩ := HX0.out.at_ 0 _ rfl; obtain ⟨m1, _⟩ := HX0.out.at_ 1 _ rfl; obtain ⟨m2, _⟩ := HX0.out.at_ 2 _ rfl; clear hB)
    | (go_at_call 19; refine (H19f.out _ _ _ _ _ HT15.out HT16.out).mono ?_; rintro e w1 ⟨rfl, hB⟩; clear H19f HT15 HT16; replace HT17 := Lib.hid ((HT17.out.below hB).more hB.size); replace HT18 := Lib.hid ((HT18.out.below hB).more hB.size); replace HB0 := Lib.hid (HB0.out.trans (hB.mono HB0.out.size)); replace HW0 := Lib.hid (HW0.out.below hB); replace HX0 := Lib.hid (HX0.out.call hB); clear m0 m1 m2; obtain ⟨m0, _⟩ := HX0.out.at_ 0 _ rfl; obtain ⟨m1, _⟩ := HX0.out.at_ 1 _ rfl; obtain ⟨m2, _⟩ := HX0.out.at_ 2 _ rfl; clear hB)
    | (go_at_call 19; refine (H19n.out _ _ _ _ _ HT17.out HT18.out).mono ?_; rintro e w1 ⟨rfl, hB⟩; clear H19n HT17 HT18; replace HB0 := Lib.hid (HB0.out.trans (hB.mono HB0.out.size)); replace HW0 := Lib.hid (HW0.out.below hB); replace HX0 := Lib.hid (HX0.out.call hB); clear m0 m1 m2; obtain ⟨m0, _⟩ := HX0.out.at_ 0 _ rfl; obtain ⟨m1, _⟩ := HX0.out.at_ 1 _ rfl; obtain ⟨m2, _⟩ := HX0.out.at_ 2 _ rfl; clear hB)
    | (go_at_call 9; refine (H9.out _).mono ?_; rintro e w1 ⟨rfl, hB⟩; clear H9; replace HB0 := Lib.hid (HB0.out.trans (hB.mono HB0.out.size)); replace HW0 := Lib.hid (HW0.out.below hB); replace HX0 := Lib.hid (HX0.out.call hB); clear m0 m1 m2; obtain ⟨m0, _⟩ := HX0.out.at_ 0 _ rfl; obtain ⟨m1, _⟩ := HX0.out.at_ 1 _ rfl; obtain ⟨m2, _⟩ := HX0.out.at_ 2 _ rfl; clear hB)
    | fail)
  all_goals first
    | (refine bodyPost_ret (v := .bool true) ?_ rfl ⟨rfl, HB0.out⟩; simp [results, Try.results4, go_sem]; done)
end Go.Proofs.Ytijgfdncocjncaa
