/- The document's example, of the program: awake. -/
import Derived.Test.YtijgfdncocjncaaF1
namespace Go.Proofs.Ytijgfdncocjncaa
set_option linter.unusedVariables false
set_option linter.unusedSimpArgs false
open Go Go.RowKit

theorem info50 : (Try.prog.info? 50).map (fun i => (i.zero, i.size, i.bytes)) = some (some (.agg #[I 0, I 0]), 2, 16) := by kernel_rfl
theorem twos_take {W : World} {B n : Nat} {A : Option Addr} {l : List (Int × Int)} (h : Twos W B A l) : Twos W B A (l.take n) := fun h0 => by
  rw [List.length_take] at h0
  obtain ⟨b, off, h1, h2, h3⟩ := h (by omega)
  refine ⟨b, off, h1, h2, fun k hk => ?_⟩
  rw [List.length_take] at hk
  rw [List.getElem_take]
  exact h3 k (by omega)
theorem twos_drop {W : World} {B n b off : Nat} {l : List (Int × Int)} (h : Twos W B (some ⟨b, off, none⟩) l) : Twos W B (some ⟨b, off + n * 2, none⟩) (l.drop n) := fun h0 => by
  rw [List.length_drop] at h0
  obtain ⟨b', off', h1, h2, h3⟩ := h (by omega)
  cases h1
  refine ⟨b, _, rfl, h2, fun k hk => ?_⟩
  rw [List.length_drop] at hk
  rw [List.getElem_drop]
  have := h3 (n + k) (by omega)
  rw [show off + n * 2 + k * 2 = off + (n + k) * 2 by omega]
  exact this
theorem twos_set {W : World} {B : Nat} {A : Option Addr} {l : List (Int × Int)} (h : Twos W B A l) {p : Addr} {a : Option Addr} {n c : Nat} (hp : W.cell? p = some (.slice a n c)) (v : Value) : Twos (W.setCell p v) B A l := fun h0 => by
  obtain ⟨b, off, h1, h2, h3⟩ := h h0
  refine ⟨b, off, h1, h2, fun k hk => ?_⟩
  obtain ⟨q1, q2⟩ := h3 k hk
  refine ⟨?_, ?_⟩
  · rw [World.cell?_setCell_other _ _ _ _ (fun e => by subst e; rw [hp] at q1; cases q1)]; exact q1
  · rw [World.cell?_setCell_other _ _ _ _ (fun e => by subst e; rw [hp] at q2; cases q2)]; exact q2
theorem fours_set {W : World} {B : Nat} {A : Option Addr} {l} (h : Fours W B A l) {p : Addr} {a : Option Addr} {n c : Nat} (hp : W.cell? p = some (.slice a n c)) (v : Value) : Fours (W.setCell p v) B A l := fun h0 => by
  obtain ⟨b, off, h1, h2, h3⟩ := h h0
  refine ⟨b, off, h1, h2, fun k hk => ?_⟩
  obtain ⟨q1, q2, q3, q4⟩ := h3 k hk
  refine ⟨?_, ?_, ?_, ?_⟩
  · rw [World.cell?_setCell_other _ _ _ _ (fun e => by subst e; rw [hp] at q1; cases q1)]; exact q1
  · rw [World.cell?_setCell_other _ _ _ _ (fun e => by subst e; rw [hp] at q2; cases q2)]; exact q2
  · rw [World.cell?_setCell_other _ _ _ _ (fun e => by subst e; rw [hp] at q3; cases q3)]; exact q3
  · rw [World.cell?_setCell_other _ _ _ _ (fun e => by subst e; rw [hp] at q4; cases q4)]; exact q4
theorem smp64 : Wat64 smp := ⟨by unfold In64; decide, fun k h => by unfold In64; revert k; decide, fun k h => by unfold In64; revert k; decide, by decide, by decide⟩
theorem smp264 : Wat64 smp2 := ⟨by unfold In64; decide, fun k h => by unfold In64; revert k; decide, fun k h => by unfold In64; revert k; decide, by decide, by decide⟩
set_option maxRecDepth 100000 in
set_option maxHeartbeats 4000000 in
theorem awake9 (w : World) : Calls Try.prog 9 #[] w fun e w' => e = .returned (.bool true) ∧ Below w.heap.size w w' := by
  have H27 := Lib.hid sample27
  have H10a : Hid (∀ A B W, WatAt W smp A B → Calls Try.prog 10 #[smp.val A 3 B 10, .agg #[I 1, I 0]] W fun e w' => e = .returned (.tuple #[.bool false, I 1, I 0]) ∧ Below W.heap.size W w') := Lib.hid fun A B W h => by have := holds10 smp A B 3 10 1 0 W smp64 h; rw [smp_h1] at this; exact this
  have H10b : Hid (∀ A B W, WatAt W smp A B → Calls Try.prog 10 #[smp.val A 3 B 10, .agg #[I 0, I 1]] W fun e w' => e = .returned (.tuple #[.bool true, I (-1), I 0]) ∧ Below W.heap.size W w') := Lib.hid fun A B W h => by have := holds10 smp A B 3 10 0 1 W smp64 h; rw [smp_h2] at this; exact this
  have H15 : Hid (∀ A B W, WatAt W smp A B → Calls Try.prog 15 #[smp.val A 3 B 10] W fun e w' => ∃ A' c', e = .returned (.tuple #[.slice A' 1 c', I 0]) ∧ Twos w' w'.heap.size A' [(0, 1)] ∧ Below W.heap.size W w') := Lib.hid fun A B W h => by have := fewest15 smp A B 3 10 W smp64 h; rw [smp_f] at this; exact this
  have H17 : Hid (∀ A B W, WatAt W smp A B → Calls Try.prog 17 #[smp.val A 3 B 10] W fun e w' => ∃ A' c', e = .returned (.tuple #[.slice A' 1 c', I 0]) ∧ Twos w' w'.heap.size A' [(0, 1)] ∧ Below W.heap.size W w') := Lib.hid fun A B W h => by have := needed17 smp A B 3 10 W smp64 h; rw [smp_n] at this; exact this
  have H12 : Hid (∀ A B d W, WatAt W smp2 A B → Calls Try.prog 12 #[smp2.val A 3 B d] W fun e w' => ∃ A' c', e = .returned (.tuple #[.slice A' 2 c', I 0]) ∧ Ints w' w'.heap.size A' [5, 8] ∧ Below W.heap.size W w') := Lib.hid fun A B d W h => by have := lacking12 smp2 A B 3 d W smp264 h; rw [smp2_l] at this; exact this
  have H19 : Hid (∀ A A' c c' W, Twos W W.heap.size A [(0, 1)] → Twos W W.heap.size A' [(0, 1)] → Calls Try.prog 19 #[.slice A 1 c, .slice A' 1 c'] W fun e w' => e = .returned (.bool true) ∧ Below W.heap.size W w') := Lib.hid fun A A' c c' W h h' => links19 A A' c c' [(0, 1)] [(0, 1)] W h h' (by decide) (by decide)
  have H14 : Hid (∀ A A' c c' W, Ints W W.heap.size A [5, 8] → Ints W W.heap.size A' [5, 8] → Calls Try.prog 14 #[.slice A 2 c, .slice A' 2 c'] W fun e w' => e = .returned (.bool true) ∧ Below W.heap.size W w') := Lib.hid fun A A' c c' W h h' => ints14 A A' c c' [5, 8] [5, 8] W h h' (by decide) (by decide)
  have hv1 : ∀ A B, smp.val A 3 B 10 = .agg #[.slice A 3 3, .slice B 10 10, I 200] := fun _ _ => rfl
  have hv2 : ∀ A B d, smp2.val A 3 B d = .agg #[.slice A 3 3, .slice B 9 d, I 200] := fun _ _ _ => rfl
  simp only [hv1, hv2] at H27 H10a H10b H15 H17 H12
  clear hv1 hv2
  go_enter Try.func9, Try.ntmps9
  go_wp2_with (first
    | (go_at_call 27; refine (H27.out _).mono ?_; rintro e w1 ⟨A, B, rfl, hW1, hB1⟩; have HZ1 : Hid (w.heap.size ≤ w1.heap.size) := Lib.hid hB1.size; have HBc : Hid (Below w.heap.size w (w1.alloc (.cells #[.slice A 3 3, .slice B 10 10, I 200] 25))) := Lib.hid (hB1.alloc hB1.size _); have HWc : Hid (WatAt (w1.alloc (.cells #[.slice A 3 3, .slice B 10 10, I 200] 25)) smp A B) := Lib.hid (hW1.below (below1 _ _)); have HXc : Hid (Box (w1.alloc (.cells #[.slice A 3 3, .slice B 10 10, I 200] 25)) w1.heap.size [.slice A 3 3, .slice B 10 10, I 200]) := Lib.hid (Box.new w1 [.slice A 3 3, .slice B 10 10, I 200] 25); clear hB1 hW1)
    | (go_at_call 10; refine (H10a.out _ _ _ HWc.out).mono ?_; rintro e w2 ⟨rfl, hB2⟩; clear H10a; replace HBc := Lib.hid (HBc.out.trans (hB2.mono HBc.out.size)); replace HWc := Lib.hid (HWc.out.below hB2); replace HXc := Lib.hid (HXc.out.call hB2); clear hB2; obtain ⟨m0, _⟩ := HXc.out.at_ 0 _ rfl; obtain ⟨m1, _⟩ := HXc.out.at_ 1 _ rfl; obtain ⟨m2, _⟩ := HXc.out.at_ 2 _ rfl)
    | (go_at_call 10; refine (H10b.out _ _ _ HWc.out).mono ?_; rintro e w2 ⟨rfl, hB2⟩; clear H10b; replace HBc := Lib.hid (HBc.out.trans (hB2.mono HBc.out.size)); replace HWc := Lib.hid (HWc.out.below hB2); replace HXc := Lib.hid (HXc.out.call hB2); clear hB2; obtain ⟨m0, _⟩ := HXc.out.at_ 0 _ rfl; obtain ⟨m1, _⟩ := HXc.out.at_ 1 _ rfl; obtain ⟨m2, _⟩ := HXc.out.at_ 2 _ rfl)
    | (go_at_call 15; refine (H15.out _ _ _ HWc.out).mono ?_; rintro e w2 ⟨A5, c5, rfl, ht5, hB2⟩; clear H15; have HT5 := Lib.hid ht5; replace HBc := Lib.hid (HBc.out.trans (hB2.mono HBc.out.size)); replace HWc := Lib.hid (HWc.out.below hB2); replace HXc := Lib.hid (HXc.out.call hB2); clear hB2 ht5; obtain ⟨m0, _⟩ := HXc.out.at_ 0 _ rfl; obtain ⟨m1, _⟩ := HXc.out.at_ 1 _ rfl; obtain ⟨m2, _⟩ := HXc.out.at_ 2 _ rfl)
    | (go_at_call 17; refine (H17.out _ _ _ HWc.out).mono ?_; rintro e w2 ⟨A7, c7, rfl, ht7, hB2⟩; clear H17; have HT7 := Lib.hid ht7; replace HT5 := Lib.hid ((HT5.out.below hB2).more hB2.size); replace HBc := Lib.hid (HBc.out.trans (hB2.mono HBc.out.size)); replace HWc := Lib.hid (HWc.out.below hB2); replace HXc := Lib.hid (HXc.out.call hB2); clear hB2 ht7; obtain ⟨m0, _⟩ := HXc.out.at_ 0 _ rfl; obtain ⟨m1, _⟩ := HXc.out.at_ 1 _ rfl; obtain ⟨m2, _⟩ := HXc.out.at_ 2 _ rfl)
    | fail)
  obtain ⟨eb, eo, hBe, hez, hec⟩ := HWc.out.er (by decide)
  subst hBe
  have HEC : Hid (∀ W, Below w2.heap.size w2 W → (W.cell? ⟨w1.heap.size, 1, none⟩ = some (.slice (some ⟨eb, eo, none⟩) 10 10))) := Lib.hid fun W h => ((HXc.out.call h).at_ 1 _ rfl).1
  refine (wpIn_wide (n := 9)).1 ?_
  refine wpIn_region_plan (Plan.ons [1, 2, 3, 5, 6, 7, 0, 4, 8, 9, 10] .fin) [1, 2, 3, 5, 6, 7] (fun W => Below w2.heap.size w2 W) [10] rfl (by kernel_rfl) (by kernel_rfl) (fun _ d _ _ _ h => by cases d <;> exact h) (Below.refl _ _).drew ?_
  (refine ordQ_held (.pointer (some ⟨w1.heap.size, 1, none⟩)) rfl rfl rfl rfl (fun W' hC' => ?_) (fun K hK => ?_); (focus (obtain g0 := HEC.out _ hC'; go_simp; try exact ⟨rfl, rfl⟩)); go_simp; refine hK _ ?_; clear hK K)
  (refine ordQ_held (.slice (some ⟨eb, eo, none⟩) 10 10) rfl rfl rfl rfl (fun W' hC' => ?_) (fun K hK => ?_); (focus (obtain g0 := HEC.out _ hC'; go_simp; try exact ⟨rfl, rfl⟩)); go_simp; refine hK _ ?_; clear hK K)
  (refine ordQ_held (.slice (some ⟨eb, eo, none⟩) 4 10) rfl rfl rfl rfl (fun W' hC' => ?_) (fun K hK => ?_); (focus (obtain g0 := HEC.out _ hC'; go_simp; try exact ⟨rfl, rfl⟩)); go_simp; refine hK _ ?_; clear hK K)
  (refine ordQ_held (.pointer (some ⟨w1.heap.size, 1, none⟩)) rfl rfl rfl rfl (fun W' hC' => ?_) (fun K hK => ?_); (focus (obtain g0 := HEC.out _ hC'; go_simp; try exact ⟨rfl, rfl⟩)); go_simp; refine hK _ ?_; clear hK K)
  (refine ordQ_held (.slice (some ⟨eb, eo, none⟩) 10 10) rfl rfl rfl rfl (fun W' hC' => ?_) (fun K hK => ?_); (focus (obtain g0 := HEC.out _ hC'; go_simp; try exact ⟨rfl, rfl⟩)); go_simp; refine hK _ ?_; clear hK K)
  (refine ordQ_held (.slice (some ⟨eb, eo + 10, none⟩) 5 5) rfl rfl rfl rfl (fun W' hC' => ?_) (fun K hK => ?_); (focus (obtain g0 := HEC.out _ hC'; go_simp; try exact ⟨rfl, rfl⟩)); go_simp; refine hK _ ?_; clear hK K)
  refine ordQ_hv rfl rfl rfl (fun K hK => ?_)
  gi_wp2
  refine hK _ _ (fun _ => by (repeat' (first | assumption | exact Below.refl _ _ | refine Below.drew ?_ | refine below_drewN ?_ _ | refine Below.setCell ?_ (by first | omega | (simp; done) | (simp; omega)) _ | refine Below.alloc ?_ (by first | omega | (simp; done) | (simp; omega)) _ | refine Below.trans ?_ (Below.mono (by assumption) (by first | omega | (simp; done) | (simp; omega)))))) ?_
  clear hK K
  obtain ⟨i0, hi0, hi1, hi2, hi3⟩ := info_parts info50
  have hB4 : Below w2.heap.size w2 (w2.alloc (.cells #[] 50)).drew := (below1 w2 _).drew
  have hr0 : ((w2.alloc (.cells #[] 50)).drew).ownsRow w2.heap.size 50 2 (.slice (some ⟨w2.heap.size, 0, none⟩) 0 0) 0 [] := (World.ownsRow_made w2 #[] 0 (Nat.le_refl _) (Nat.zero_le _) (by simp)).drew
  have hT := HWc.out.er
  have hN4 := flat2_src ((twos_take (n := 4) hT).below hB4) (by decide)
  obtain ⟨ad4, hae, hn4⟩ := hN4
  cases hae
  refine ordQ_hv rfl rfl rfl (fun K hK => ?_)
  refine opIn_append_own rfl _ _ _ 23 rfl w2.heap.size 50 i0 (.agg #[I 0, I 0]) 2 16 Try.underlying23 hi0 hi1 hi2 hi3 rfl (by decide) _ _ _ rfl hr0 ⟨eb, eo, none⟩ 4 10 (flat2 (smp.er.take 4)) rfl rfl hn4 (flat2_one _) (by simp [maxLen]) (by omega) hB4.size ?_
  intro v5 w5 hown5 hg5 _
  have hB5 : Below w2.heap.size w2 w5 := hB4.grown hg5 hB4.size (fun k e => (hr0.lt k e).1)
  refine hK _ _ (fun _ => hB5) ?_
  clear hK K
  have hN5 := flat2_src ((twos_drop (n := 5) hT).below hB5) (by decide)
  obtain ⟨ad5, hae, hn5⟩ := hN5
  cases hae
  refine ordQ_hv rfl rfl rfl (fun K hK => ?_)
  refine opIn_append_own rfl _ _ _ 23 rfl w2.heap.size 50 i0 (.agg #[I 0, I 0]) 2 16 Try.underlying23 hi0 hi1 hi2 hi3 rfl (by decide) _ _ _ rfl hown5 ⟨eb, eo + 10, none⟩ 5 5 (flat2 (smp.er.drop 5)) rfl rfl hn5 (flat2_one _) (by simp [maxLen]) (by omega) hB5.size ?_
  intro v8 w8 hown8 hg8 _
  have hB8 : Below w2.heap.size w2 w8 := hB5.grown hg8 hB5.size (fun k e => (hown5.lt k e).1)
  refine hK _ _ (fun _ => hB8) ?_
  clear hK K
  have hown9 : w8.ownsRow w2.heap.size 50 2 v8 9 (flat2 smp2.er) := hown8
  obtain ⟨A8, c8, hv8, hT8, hA8⟩ := twos_own hown9 (by decide)
  subst hv8
  (refine ordQ_li rfl rfl rfl (fun K hK => ?_); go_simp; refine hK _ ?_; clear hK K)
  refine ordQ_hv rfl rfl rfl (fun K hK => ?_)
  have m1' := HXc.out.call hB8
  obtain ⟨m1, _⟩ := m1'.at_ 1 _ rfl
  gi_wp2
  refine hK _ _ (fun h => by cases h) ?_
  clear hK K
  refine ordQ_fin ?_
  have HB9 : Hid (Below w.heap.size w (w8.setCell ⟨w1.heap.size, 1, none⟩ (.slice A8 9 c8))) := Lib.hid ((HBc.out.trans (hB8.mono HBc.out.size)).setCell (p := ⟨w1.heap.size, 1, none⟩) HZ1.out _)
  have HX9 : Hid (Box (w8.setCell ⟨w1.heap.size, 1, none⟩ (.slice A8 9 c8)) w1.heap.size [.slice A 3 3, .slice A8 9 c8, I 200]) := Lib.hid (m1'.set 1 (.slice A8 9 c8))
  have hW8 := HWc.out.below hB8
  have HW9 : Hid (WatAt (w8.setCell ⟨w1.heap.size, 1, none⟩ (.slice A8 9 c8)) smp2 A A8) := Lib.hid ⟨(fours_set hW8.hb m1 _).more (by simp), (twos_set hT8 m1 _).more (by simp)⟩
  have HT5' := Lib.hid ((twos_set ((HT5.out.below hB8).more hB8.size) m1 (.slice A8 9 c8)).more (B' := (w8.setCell ⟨w1.heap.size, 1, none⟩ (.slice A8 9 c8)).heap.size) (by simp))
  have HT7' := Lib.hid ((twos_set ((HT7.out.below hB8).more hB8.size) m1 (.slice A8 9 c8)).more (B' := (w8.setCell ⟨w1.heap.size, 1, none⟩ (.slice A8 9 c8)).heap.size) (by simp))
  clear HBc HWc HXc HT5 HT7 m1' m1 hW8 hB8 hown8 hown9 hT8 hA8 hg8 hB5 hg5 hown5 hB4 hr0 hT HEC
  generalize w8.setCell ⟨w1.heap.size, 1, none⟩ (.slice A8 9 c8) = w9 at *
  obtain ⟨m0, _⟩ := HX9.out.at_ 0 _ rfl
  obtain ⟨m1, _⟩ := HX9.out.at_ 1 _ rfl
  obtain ⟨m2, _⟩ := HX9.out.at_ 2 _ rfl
  go_wp2_with (first
    | (go_at_call 12; refine (H12.out _ _ _ _ HW9.out).mono ?_; rintro e w10 ⟨A10, c10, rfl, hi10, hB10⟩; clear H12; replace HT5' := Lib.hid ((HT5'.out.below hB10).more hB10.size); replace HT7' := Lib.hid ((HT7'.out.below hB10).more hB10.size); replace HB9 := Lib.hid (HB9.out.trans (hB10.mono HB9.out.size)); clear hB10 HW9 HX9
       have hB11 := below1 w10 (.cells #[.int .i64 0, .int .i64 1] 27)
       have HI := Lib.hid ((hi10.below hB11).more hB11.size); replace HT5' := Lib.hid ((HT5'.out.below hB11).more hB11.size); replace HT7' := Lib.hid ((HT7'.out.below hB11).more hB11.size); replace HB9 := Lib.hid (HB9.out.trans (hB11.mono HB9.out.size)); clear hB11 hi10
       have HL : Hid (Twos (w10.alloc (.cells #[.int .i64 0, .int .i64 1] 27)) (w10.alloc (.cells #[.int .i64 0, .int .i64 1] 27)).heap.size (some ⟨w10.heap.size, 0, none⟩) [(0, 1)]) := Lib.hid (fun _ => ⟨_, 0, rfl, by simp, fun k hk => by
         have hk1 : k < 1 := hk
         obtain rfl : k = 0 := by omega
         exact ⟨((Box.new w10 [.int .i64 0, .int .i64 1] 27).at_ 0 _ rfl).1, ((Box.new w10 [.int .i64 0, .int .i64 1] 27).at_ 1 _ rfl).1⟩⟩))
    | (go_at_call 19; refine (H19.out _ _ _ _ _ HT5'.out HL.out).mono ?_; rintro e w12 ⟨rfl, hB12⟩; clear HT5'; replace HT7' := Lib.hid ((HT7'.out.below hB12).more hB12.size); replace HI := Lib.hid ((HI.out.below hB12).more hB12.size); replace HL := Lib.hid ((HL.out.below hB12).more hB12.size); replace HB9 := Lib.hid (HB9.out.trans (hB12.mono HB9.out.size)); clear hB12)
    | (go_at_call 19; refine (H19.out _ _ _ _ _ HT7'.out HL.out).mono ?_; rintro e w13 ⟨rfl, hB13⟩; clear HT7'; replace HI := Lib.hid ((HI.out.below hB13).more hB13.size); replace HB9 := Lib.hid (HB9.out.trans (hB13.mono HB9.out.size)); clear hB13 HL)
    | (go_at_call 14; refine (H14.out _ _ _ _ _ ((HI.out.below (below1 w13 (.cells #[.int .i64 5, .int .i64 8] 3))).more (below1 w13 (.cells #[.int .i64 5, .int .i64 8] 3)).size) (fun _ => ⟨_, 0, rfl, by simp, fun k hk => by
         have hk1 : k < 2 := hk
         rcases (by omega : k = 0 ∨ k = 1) with rfl | rfl
         · exact ((Box.new w13 [.int .i64 5, .int .i64 8] 3).at_ 0 _ rfl).1
         · exact ((Box.new w13 [.int .i64 5, .int .i64 8] 3).at_ 1 _ rfl).1⟩)).mono ?_; rintro e w14 ⟨rfl, hB14⟩; replace HB9 := Lib.hid ((HB9.out.alloc HB9.out.size (.cells #[.int .i64 5, .int .i64 8] 3)).trans (hB14.mono (HB9.out.alloc HB9.out.size (.cells #[.int .i64 5, .int .i64 8] 3)).size)); clear hB14 HI)
    | fail)
  exact bodyPost_ret (v := .bool true) (by simp [results, Try.results9, go_sem]) rfl ⟨rfl, HB9.out⟩
end Go.Proofs.Ytijgfdncocjncaa
