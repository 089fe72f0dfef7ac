/- The document's examples hold: alive. -/
import Derived.Test.YtomfnldlnoiloaaDoorF0
import Derived.Test.YtomfnldlnoiloaaDoorF1
import Derived.Test.YtomfnldlnoiloaaDoorS12
import Derived.Test.YtomfnldlnoiloaaDoorT5
namespace Go.Proofs.YtomfnldlnoiloaaDoor
set_option linter.unusedVariables false
set_option linter.unusedSimpArgs false
open Go Go.RowKit Go.Maps

theorem see_smp : seeV smpV [(0, 0, 10), (2, 1, 8)] 2 5 = (8, 2, 0) := by decide +kernel
theorem see_smp2 : seeV smpV [(0, 0, 10), (2, 1, 9)] 2 5 = (0, 1, 9) := by decide +kernel
set_option maxRecDepth 100000 in
theorem sml_stands {l : List (Int × Int)} (h : WallAns smlV 1 2 l) : l = [(0, 0), (0, 1), (0, 2)] := by
  obtain ⟨val, R, hM, rfl⟩ := h.1 (by decide +kernel)
  have hs := sml2
  have h2 := (LeastL.uniq hM hs).2
  rw [h2]
  exact (by kernel_rfl : standsR smlV 2 (reachL [(0, 2, 4), (1, 3, 9), (0, 3, 3), (2, 4, 4), (3, 5, 9), (2, 5, 3), (6, 0, 10), (5, 7, 9)] (fun i => [3, 0, 3, 0, 3, 3, 6, 6].getD i 0) 6 8) = [(0, 0), (0, 1), (0, 2)])
theorem threes_new (W : World) (a b c d e f : Int) (t : TypeId) : Threes (W.alloc (.cells #[I a, I b, I c, I d, I e, I f] t)) (W.alloc (.cells #[I a, I b, I c, I d, I e, I f] t)).heap.size (some ⟨W.heap.size, 0, none⟩) [(a, b, c), (d, e, f)] := fun _ => by
  have h := Box.new W [I a, I b, I c, I d, I e, I f] t
  refine ⟨_, 0, rfl, by simp, fun k hk => ?_⟩
  have hk2 : k < 2 := hk
  rcases (by omega : k = 0 ∨ k = 1) with rfl | rfl
  · exact ⟨(h.at_ 0 _ rfl).1, (h.at_ 1 _ rfl).1, (h.at_ 2 _ rfl).1⟩
  · exact ⟨(h.at_ 3 _ rfl).1, (h.at_ 4 _ rfl).1, (h.at_ 5 _ rfl).1⟩
theorem twos_new (W : World) (a b c d e f : Int) (t : TypeId) : Twos (W.alloc (.cells #[I a, I b, I c, I d, I e, I f] t)) (W.alloc (.cells #[I a, I b, I c, I d, I e, I f] t)).heap.size (some ⟨W.heap.size, 0, none⟩) [(a, b), (c, d), (e, f)] := fun _ => by
  have h := Box.new W [I a, I b, I c, I d, I e, I f] t
  refine ⟨_, 0, rfl, by simp, fun k hk => ?_⟩
  have hk2 : k < 3 := hk
  rcases (by omega : k = 0 ∨ k = 1 ∨ k = 2) with rfl | rfl | rfl
  · exact ⟨(h.at_ 0 _ rfl).1, (h.at_ 1 _ rfl).1⟩
  · exact ⟨(h.at_ 2 _ rfl).1, (h.at_ 3 _ rfl).1⟩
  · exact ⟨(h.at_ 4 _ rfl).1, (h.at_ 5 _ rfl).1⟩
set_option maxRecDepth 100000 in
set_option maxHeartbeats 4000000 in
theorem alive13 (w : World) (hG : GlobOk w) : Calls Tryd.prog 13 #[] w fun e w' => e = .returned (.bool true) ∧ Below w.heap.size w w' := by
  have HG : Hid (∀ W, Below w.heap.size w W → GlobOk W) := Lib.hid fun W h => hG.below h hG.z
  have HBc := Lib.hid (Below.refl w.heap.size w)
  have H28 : Hid (∀ W, Calls Tryd.prog 28 #[] W fun e w' => ∃ A1 A2 A3, e = .returned (.agg #[.slice A1 3 3, .slice A2 3 3, .slice A3 2 2]) ∧ VisAt w' w'.heap.size smpV A1 A2 A3 ∧ Below W.heap.size W w') := Lib.hid sample28
  have H29 : Hid (∀ W, Calls Tryd.prog 29 #[] W fun e w' => ∃ A1 A2 A3, e = .returned (.agg #[.slice A1 2 2, .slice A2 1 1, .slice A3 1 1]) ∧ VisAt w' w'.heap.size smlV A1 A2 A3 ∧ Below W.heap.size W w') := Lib.hid small29
  have H16 : Hid (∀ A1 A2 A3 W, VisAt W W.heap.size smpV A1 A2 A3 → GlobOk W → Calls Tryd.prog 16 #[.agg #[.slice A1 3 3, .slice A2 3 3, .slice A3 2 2], I 2, I 9] W fun e w' => e = .returned (.tuple #[I 52, I 0]) ∧ Below W.heap.size W w') := Lib.hid fun A1 A2 A3 W hI hG => by
    refine (most16 smpV smp_64 A1 A2 A3 3 3 2 2 9 W hI hG).mono ?_
    rintro e w' ⟨val, rfl, hA, hB⟩
    obtain ⟨R, hM⟩ := hA.1 (by decide +kernel)
    rw [hM.val smp9, show errN smpV 2 9 = 0 by decide +kernel]
    exact ⟨rfl, hB⟩
  have H18 : Hid (∀ A1 A2 A3 W, VisAt W W.heap.size smlV A1 A2 A3 → GlobOk W → Calls Tryd.prog 18 #[.agg #[.slice A1 2 2, .slice A2 1 1, .slice A3 1 1], I 1, I 2] W fun e w' => ∃ A c, e = .returned (.tuple #[.slice A 3 c, I 0]) ∧ Twos w' w'.heap.size A [(0, 0), (0, 1), (0, 2)] ∧ Below W.heap.size W w') := Lib.hid fun A1 A2 A3 W hI hG => by
    refine (wall18 smlV sml_64 A1 A2 A3 2 1 1 1 2 W hI hG).mono ?_
    rintro e w' ⟨A, c, l, rfl, hA, hT, hB, _⟩
    obtain rfl := sml_stands hA
    rw [show errN smlV 1 2 = 0 by decide +kernel]
    exact ⟨A, c, rfl, hT.1, hB⟩
  have H14 : Hid (∀ A1 A2 A3 AL W, VisAt W W.heap.size smpV A1 A2 A3 → Threes W W.heap.size AL [(0, 0, 10), (2, 1, 8)] → Calls Tryd.prog 14 #[.agg #[.slice A1 3 3, .slice A2 3 3, .slice A3 2 2], .slice AL 2 2, I 2, I 5] W fun e w' => e = .returned (.tuple #[I 8, I 2, I 0]) ∧ Below W.heap.size W w') := Lib.hid fun A1 A2 A3 AL W hI hL => by
    refine (see14 smpV smp_64 A1 A2 A3 AL 3 3 2 2 [(0, 0, 10), (2, 1, 8)] 2 5 W hI hL).mono ?_
    rintro e w' ⟨rfl, hB⟩
    rw [see_smp]
    exact ⟨rfl, hB⟩
  have H20 : Hid (∀ A A' c c' W, Twos W W.heap.size A [(0, 0), (0, 1), (0, 2)] → Twos W W.heap.size A' [(0, 0), (0, 1), (0, 2)] → Calls Tryd.prog 20 #[.slice A 3 c, .slice A' 3 c'] W fun e w' => e = .returned (.bool true) ∧ Below W.heap.size W w') := Lib.hid fun A A' c c' W h h' => stands20 A A' c c' [(0, 0), (0, 1), (0, 2)] [(0, 0), (0, 1), (0, 2)] W h h' (by decide) (by decide)
  have tk1 : Hid True := Lib.hid trivial
  clear hG
  go_enter Tryd.func13, Tryd.ntmps13
  go_wp2_with (first
    | (go_at_call 28; have _t := tk1; clear tk1; refine (H28.out _).mono ?_; rintro e w1 ⟨A1, A2, A3, rfl, hV, hB⟩; have HV := Lib.hid hV; replace HBc := Lib.hid (HBc.out.trans (hB.mono HBc.out.size)); clear hV hB)
    | (go_at_call 16; refine (H16.out _ _ _ _ HV.out (HG.out _ HBc.out)).mono ?_; rintro e w2 ⟨rfl, hB⟩; clear HV; replace HBc := Lib.hid (HBc.out.trans (hB.mono HBc.out.size)); clear hB)
    | (go_at_call 29; refine (H29.out _).mono ?_; rintro e w3 ⟨B1, B2, B3, rfl, hV, hB⟩; have HV := Lib.hid hV; replace HBc := Lib.hid (HBc.out.trans (hB.mono HBc.out.size)); clear hV hB)
    | (go_at_call 18; refine (H18.out _ _ _ _ HV.out (HG.out _ HBc.out)).mono ?_; rintro e w4 ⟨A, c, rfl, hT, hB⟩; clear HV; have HT := Lib.hid hT; replace HBc := Lib.hid (HBc.out.trans (hB.mono HBc.out.size)); clear hT hB)
    | (go_at_call 28; refine (H28.out _).mono ?_; rintro e w5 ⟨C1, C2, C3, rfl, hV, hB⟩; replace HT := Lib.hid ((HT.out.below hB).more hB.size); replace HBc := Lib.hid (HBc.out.trans (hB.mono HBc.out.size)); clear hB
       have hB := below1 w5 (.cells #[I 0, I 0, I 10, I 2, I 1, I 8] 56); replace HT := Lib.hid ((HT.out.below hB).more hB.size); have HV := Lib.hid ((hV.below hB).more hB.size); replace HBc := Lib.hid (HBc.out.trans (hB.mono HBc.out.size)); have HL := Lib.hid (threes_new w5 0 0 10 2 1 8 56); clear hV hB)
    | (go_at_call 14; refine (H14.out _ _ _ _ _ HV.out HL.out).mono ?_; rintro e w6 ⟨rfl, hB⟩; clear HV HL; replace HT := Lib.hid ((HT.out.below hB).more hB.size); replace HBc := Lib.hid (HBc.out.trans (hB.mono HBc.out.size)); clear hB
       have hB := below1 w6 (.cells #[I 0, I 0, I 0, I 1, I 0, I 2] 46); replace HT := Lib.hid ((HT.out.below hB).more hB.size); replace HBc := Lib.hid (HBc.out.trans (hB.mono HBc.out.size)); have HL := Lib.hid (twos_new w6 0 0 0 1 0 2 46); clear hB)
    | (go_at_call 20; refine (H20.out _ _ _ _ _ HT.out HL.out).mono ?_; rintro e w7 ⟨rfl, hB⟩; replace HBc := Lib.hid (HBc.out.trans (hB.mono HBc.out.size)); clear hB)
    | fail)
  exact bodyPost_ret (v := .bool true) (by simp [results, Tryd.results13, go_sem]) rfl ⟨rfl, HBc.out⟩
end Go.Proofs.YtomfnldlnoiloaaDoor
