/- CrowdNames: the walk. Printed by mkTN.py. -/
import Derived.Test.YtomfnldlnoiloaaDoorF2
namespace Go.Proofs.YtomfnldlnoiloaaDoor
set_option linter.unusedVariables false
set_option linter.unusedSimpArgs false
open Go Go.RowKit Go.Maps

theorem soon_a {t : Int} (h : SoonAns smpV 2 8 t) : t = 5 := by
  refine h.uniq (t' := 5) ⟨fun _ => .inl ⟨5, by omega, rfl, fun u hu => ?_, _, _, smp5, by decide⟩, fun h => absurd (by decide +kernel) h⟩
  rcases (by omega : u = 0 ∨ u = 1 ∨ u = 2 ∨ u = 3 ∨ u = 4) with rfl | rfl | rfl | rfl | rfl
  · exact ⟨_, _, smp0, by decide⟩
  · exact ⟨_, _, smp1, by decide⟩
  · exact ⟨_, _, smp2, by decide⟩
  · exact ⟨_, _, smp3, by decide⟩
  · exact ⟨_, _, smp4, by decide⟩
theorem soon_b {t : Int} (h : SoonAns smpV 2 56 t) : t = -1 := by
  rcases h.1 (by decide +kernel) with ⟨k, _, rfl, _, val, R, hM, hq⟩ | ⟨rfl, _⟩
  · have hP := (mostP smp_ok).2 hM
    have h1 := hP.least (fun x => x != snkN smpV k) (by simp [snkN]) (by simp)
    have h2 := (most_sink (v := smpV) (p := 2) (m := k) smp_ok (by decide)).1
    have h3 : smpV.room 2 = 55 := by decide
    have h4 : (2 : Int).toNat = 2 := rfl
    rw [h4] at h1
    omega
  · rfl
set_option maxRecDepth 100000 in
set_option maxHeartbeats 8000000 in
theorem names_any (w : World) (hG : GlobOk w) : Calls Tryd.prog 11 #[] w fun e w' => e = .returned (.bool true) ∧ Below w.heap.size w w' := by
  have HG : Hid (∀ W, Below w.heap.size w W → GlobOk W) := Lib.hid fun W h => hG.below h hG.z
  have H13 : Hid (∀ W, GlobOk W → Calls Tryd.prog 13 #[] W fun e w' => e = .returned (.bool true) ∧ Below W.heap.size W w') := Lib.hid alive13
  have H28 : Hid (∀ W, Calls Tryd.prog 28 #[] W fun e w' => ∃ A1 A2 A3, e = .returned (.agg #[.slice A1 3 3, .slice A2 3 3, .slice A3 2 2]) ∧ VisAt w' w'.heap.size smpV A1 A2 A3 ∧ Below W.heap.size W w') := Lib.hid sample28
  have H29 : Hid (∀ W, Calls Tryd.prog 29 #[] W fun e w' => ∃ A1 A2 A3, e = .returned (.agg #[.slice A1 2 2, .slice A2 1 1, .slice A3 1 1]) ∧ VisAt w' w'.heap.size smlV A1 A2 A3 ∧ Below W.heap.size W w') := Lib.hid small29
  have H16_4 : Hid (∀ A1 A2 A3 W, VisAt W W.heap.size smpV A1 A2 A3 → GlobOk W → Calls Tryd.prog 16 #[.agg #[.slice A1 3 3, .slice A2 3 3, .slice A3 2 2], I 2, I 4] W fun e w' => e = .returned (.tuple #[I 0, I 0]) ∧ Below W.heap.size W w') := Lib.hid fun A1 A2 A3 W hI hG => by
    refine (most16 smpV smp_64 A1 A2 A3 3 3 2 2 4 W hI hG).mono ?_
    rintro e w' ⟨val, rfl, hA, hB⟩
    obtain ⟨R, hM⟩ := hA.1 (by decide +kernel)
    rw [hM.val smp4, show errN smpV 2 4 = 0 by decide +kernel]
    exact ⟨rfl, hB⟩
  have H16_5 : Hid (∀ A1 A2 A3 W, VisAt W W.heap.size smpV A1 A2 A3 → GlobOk W → Calls Tryd.prog 16 #[.agg #[.slice A1 3 3, .slice A2 3 3, .slice A3 2 2], I 2, I 5] W fun e w' => e = .returned (.tuple #[I 8, I 0]) ∧ Below W.heap.size W w') := Lib.hid fun A1 A2 A3 W hI hG => by
    refine (most16 smpV smp_64 A1 A2 A3 3 3 2 2 5 W hI hG).mono ?_
    rintro e w' ⟨val, rfl, hA, hB⟩
    obtain ⟨R, hM⟩ := hA.1 (by decide +kernel)
    rw [hM.val smp5, show errN smpV 2 5 = 0 by decide +kernel]
    exact ⟨rfl, hB⟩
  have H16_9 : Hid (∀ A1 A2 A3 W, VisAt W W.heap.size smpV A1 A2 A3 → GlobOk W → Calls Tryd.prog 16 #[.agg #[.slice A1 3 3, .slice A2 3 3, .slice A3 2 2], I 2, I 9] W fun e w' => e = .returned (.tuple #[I 52, I 0]) ∧ Below W.heap.size W w') := Lib.hid fun A1 A2 A3 W hI hG => by
    refine (most16 smpV smp_64 A1 A2 A3 3 3 2 2 9 W hI hG).mono ?_
    rintro e w' ⟨val, rfl, hA, hB⟩
    obtain ⟨R, hM⟩ := hA.1 (by decide +kernel)
    rw [hM.val smp9, show errN smpV 2 9 = 0 by decide +kernel]
    exact ⟨rfl, hB⟩
  have H16_10 : Hid (∀ A1 A2 A3 W, VisAt W W.heap.size smpV A1 A2 A3 → GlobOk W → Calls Tryd.prog 16 #[.agg #[.slice A1 3 3, .slice A2 3 3, .slice A3 2 2], I 2, I 10] W fun e w' => e = .returned (.tuple #[I 55, I 0]) ∧ Below W.heap.size W w') := Lib.hid fun A1 A2 A3 W hI hG => by
    refine (most16 smpV smp_64 A1 A2 A3 3 3 2 2 10 W hI hG).mono ?_
    rintro e w' ⟨val, rfl, hA, hB⟩
    obtain ⟨R, hM⟩ := hA.1 (by decide +kernel)
    rw [hM.val smp10, show errN smpV 2 10 = 0 by decide +kernel]
    exact ⟨rfl, hB⟩
  have H16s : Hid (∀ A1 A2 A3 W, VisAt W W.heap.size smlV A1 A2 A3 → GlobOk W → Calls Tryd.prog 16 #[.agg #[.slice A1 2 2, .slice A2 1 1, .slice A3 1 1], I 1, I 2] W fun e w' => e = .returned (.tuple #[I 6, I 0]) ∧ Below W.heap.size W w') := Lib.hid fun A1 A2 A3 W hI hG => by
    refine (most16 smlV sml_64 A1 A2 A3 2 1 1 1 2 W hI hG).mono ?_
    rintro e w' ⟨val, rfl, hA, hB⟩
    obtain ⟨R, hM⟩ := hA.1 (by decide +kernel)
    rw [hM.val sml2, show errN smlV 1 2 = 0 by decide +kernel]
    exact ⟨rfl, hB⟩
  have H26a : Hid (∀ A1 A2 A3 W, VisAt W W.heap.size smpV A1 A2 A3 → GlobOk W → Calls Tryd.prog 26 #[.agg #[.slice A1 3 3, .slice A2 3 3, .slice A3 2 2], I 2, I 8] W fun e w' => e = .returned (.tuple #[I 5, I 0]) ∧ Below W.heap.size W w') := Lib.hid fun A1 A2 A3 W hI hG => by
    refine (soonest26 smpV smp_64 A1 A2 A3 3 3 2 2 8 W hI hG).mono ?_
    rintro e w' ⟨t, rfl, hA, hB⟩
    rw [soon_a hA, show soonE smpV 2 8 = 0 by decide +kernel]
    exact ⟨rfl, hB⟩
  have H26b : Hid (∀ A1 A2 A3 W, VisAt W W.heap.size smpV A1 A2 A3 → GlobOk W → Calls Tryd.prog 26 #[.agg #[.slice A1 3 3, .slice A2 3 3, .slice A3 2 2], I 2, I 56] W fun e w' => e = .returned (.tuple #[I (-1), I 0]) ∧ Below W.heap.size W w') := Lib.hid fun A1 A2 A3 W hI hG => by
    refine (soonest26 smpV smp_64 A1 A2 A3 3 3 2 2 56 W hI hG).mono ?_
    rintro e w' ⟨t, rfl, hA, hB⟩
    rw [soon_b hA, show soonE smpV 2 56 = 0 by decide +kernel]
    exact ⟨rfl, hB⟩
  have H14 : Hid (∀ A1 A2 A3 AL W, VisAt W W.heap.size smpV A1 A2 A3 → Threes W W.heap.size AL [(0, 0, 10), (2, 1, 9)] → Calls Tryd.prog 14 #[.agg #[.slice A1 3 3, .slice A2 3 3, .slice A3 2 2], .slice AL 2 2, I 2, I 5] W fun e w' => e = .returned (.tuple #[I 0, I 1, I 9]) ∧ Below W.heap.size W w') := Lib.hid fun A1 A2 A3 AL W hI hL => by
    refine (see14 smpV smp_64 A1 A2 A3 AL 3 3 2 2 [(0, 0, 10), (2, 1, 9)] 2 5 W hI hL).mono ?_
    rintro e w' ⟨rfl, hB⟩
    rw [see_smp2]
    exact ⟨rfl, hB⟩
  clear hG
  go_enter Tryd.func11, Tryd.ntmps11
  go_upto_if 17 with (first
    | (go_at_call 28; refine (H28.out _).mono ?_; rintro e w1 ⟨A1, A2, A3, rfl, hV, hB⟩)
    | fail)
  have b1 := (Box.new w1 [.slice A1 3 3, .slice A2 3 3, .slice A3 2 2] 26).alloc (.cells #[I 0, I 8, I 52, I 55] 3)
  have b2 := Box.new (w1.alloc (.cells #[.slice A1 3 3, .slice A2 3 3, .slice A3 2 2] 26)) [I 0, I 8, I 52, I 55] 3
  have hBA : Below w1.heap.size w1 ((w1.alloc (.cells #[.slice A1 3 3, .slice A2 3 3, .slice A3 2 2] 26)).alloc (.cells #[I 0, I 8, I 52, I 55] 3)) := by (repeat' (first | assumption | exact Below.refl _ _ | refine Below.drew ?_ | refine below_drewN ?_ _ | refine Below.setCell ?_ (by first | omega | (simp; done) | (simp; omega)) _ | refine Below.alloc ?_ (by first | omega | (simp; done) | (simp; omega)) _ | refine Below.trans ?_ (Below.mono (by assumption) (by first | omega | (simp; done) | (simp; omega)))))
  rw [World.size_alloc] at b2
  dsimp only [List.toArray] at b1 b2
  obtain ⟨wA, hwA⟩ : ∃ z, (w1.alloc (.cells #[.slice A1 3 3, .slice A2 3 3, .slice A3 2 2] 26)).alloc (.cells #[I 0, I 8, I 52, I 55] 3) = z := ⟨_, rfl⟩
  rw [hwA] at b1 b2 hBA
  simp only [hwA]
  have HX : Hid (∀ W, Below wA.heap.size wA W → (W.cell? ⟨w1.heap.size, 0, none⟩ = some (.slice A1 3 3) ∧ W.cell? ⟨w1.heap.size, 1, none⟩ = some (.slice A2 3 3) ∧ W.cell? ⟨w1.heap.size, 2, none⟩ = some (.slice A3 2 2)) ∧ (W.cell? ⟨w1.heap.size + 1, 0, none⟩ = some (I 0) ∧ W.cell? ⟨w1.heap.size + 1, 1, none⟩ = some (I 8) ∧ W.cell? ⟨w1.heap.size + 1, 2, none⟩ = some (I 52) ∧ W.cell? ⟨w1.heap.size + 1, 3, none⟩ = some (I 55)) ∧ VisAt W W.heap.size smpV A1 A2 A3 ∧ GlobOk W ∧ Below w.heap.size w W ∧ wA.heap.size ≤ W.heap.size) := Lib.hid fun W h => by
    have hBw := hBA.trans (h.mono hBA.size)
    have hbw := hB.trans (hBw.mono hB.size)
    exact ⟨⟨((b1.call h).at_ 0 _ rfl).1, ((b1.call h).at_ 1 _ rfl).1, ((b1.call h).at_ 2 _ rfl).1⟩, ⟨((b2.call h).at_ 0 _ rfl).1, ((b2.call h).at_ 1 _ rfl).1, ((b2.call h).at_ 2 _ rfl).1, ((b2.call h).at_ 3 _ rfl).1⟩, (hV.below hBw).more hBw.size, HG.out W hbw, hbw, h.size⟩
  have hz1 : w1.heap.size + 1 < wA.heap.size := b2.1
  clear hwA b1 b2 hBA hV hB
  go_loopw [19, 2] (fun i19 i2 wr => ∃ z : Int, i19 = I z ∧ i2 = .bool true ∧ (z = 0 ∨ z = 1 ∨ z = 2 ∨ z = 3 ∨ z = 4) ∧ Hid (Below wA.heap.size wA wr)) (fun i _ _ => 4 - (intOf i).toNat)
  case atStart => exact ⟨0, rfl, rfl, by omega, Lib.hid (Below.refl _ _)⟩
  case round =>
    obtain ⟨z, rfl, rfl, hz, HB⟩ := hrel
    obtain ⟨⟨x0, x1, x2⟩, ⟨r0, r1, r2, r3⟩, _, _, _, hsz⟩ := HX.out wr HB.out
    have HXr : Hid (∀ W, Below wr.heap.size wr W → W.cell? ⟨w1.heap.size, 0, none⟩ = some (.slice A1 3 3) ∧ W.cell? ⟨w1.heap.size, 1, none⟩ = some (.slice A2 3 3) ∧ W.cell? ⟨w1.heap.size, 2, none⟩ = some (.slice A3 2 2)) := Lib.hid fun W h => (HX.out W (HB.out.trans (h.mono HB.out.size))).1
    have HC : Hid (∀ W, Below wr.heap.size wr W → VisAt W W.heap.size smpV A1 A2 A3 ∧ GlobOk W) := Lib.hid fun W h => by
      obtain ⟨_, _, h1, h2, _⟩ := HX.out W (HB.out.trans (h.mono HB.out.size))
      exact ⟨h1, h2⟩
    rcases hz with rfl | rfl | rfl | rfl | rfl
    · go_wp2_with (fail)
      refine (wpIn_wide (n := 9)).1 ?_
      refine wpIn_region_plan (Plan.ons [0, 2, 1, 3, 4, 5, 6, 7, 8, 9, 10] .fin) [0, 2] (fun W => Below wr.heap.size wr W) [] rfl (by kernel_rfl) (by kernel_rfl) (fun _ d _ _ _ h => by cases d <;> exact h) (Below.refl _ _).drew ?_
      (refine ordQ_held (.agg #[.slice A1 3 3, .slice A2 3 3, .slice A3 2 2]) rfl rfl rfl rfl (fun W' hC' => ?_) (fun K hK => ?_); (focus (obtain ⟨g0, g1, g2⟩ := HXr.out _ hC'; go_simp; try exact ⟨rfl, rfl⟩)); go_simp; refine hK _ ?_; clear hK K)
      (refine ordQ_held (I 0) rfl rfl rfl rfl (fun W' hC' => ?_) (fun K hK => ?_); (focus (obtain ⟨g0, g1, g2⟩ := HXr.out _ hC'; go_simp; try exact ⟨rfl, rfl⟩)); go_simp; refine hK _ ?_; clear hK K)
      refine ordQ_hv rfl rfl rfl (fun K hK => ?_)
      gi_wp2
      refine hK _ _ (fun _ => by (repeat' (first | assumption | exact Below.refl _ _ | refine Below.drew ?_ | refine below_drewN ?_ _ | refine Below.setCell ?_ (by first | omega | (simp; done) | (simp; omega)) _ | refine Below.alloc ?_ (by first | omega | (simp; done) | (simp; omega)) _ | refine Below.trans ?_ (Below.mono (by assumption) (by first | omega | (simp; done) | (simp; omega)))))) ?_
      clear hK K
      (refine ordQ_li rfl rfl rfl (fun K hK => ?_); go_simp; refine hK _ ?_; clear hK K)
      (refine ordQ_li rfl rfl rfl (fun K hK => ?_); go_simp; refine hK _ ?_; clear hK K)
      refine ordQ_hv rfl rfl rfl (fun K hK => ?_)
      gi_wp2_with (first | (refine And.intro trivial ?_; gi_at_call 16; refine (callsIn_wide.2 (H16_4.out _ _ _ _ (HC.out _ (by (repeat' (first | assumption | exact Below.refl _ _ | refine Below.drew ?_ | refine below_drewN ?_ _ | refine Below.setCell ?_ (by first | omega | (simp; done) | (simp; omega)) _ | refine Below.alloc ?_ (by first | omega | (simp; done) | (simp; omega)) _ | refine Below.trans ?_ (Below.mono (by assumption) (by first | omega | (simp; done) | (simp; omega))))))).1 (HC.out _ (by (repeat' (first | assumption | exact Below.refl _ _ | refine Below.drew ?_ | refine below_drewN ?_ _ | refine Below.setCell ?_ (by first | omega | (simp; done) | (simp; omega)) _ | refine Below.alloc ?_ (by first | omega | (simp; done) | (simp; omega)) _ | refine Below.trans ?_ (Below.mono (by assumption) (by first | omega | (simp; done) | (simp; omega))))))).2)).mono ?_; rintro e w3 ⟨rfl, hB3⟩) | fail)
      have hB4 : Below wr.heap.size wr w3 := Below.trans (b := wr.drew.alloc (.cells #[I 4, I 5, I 9, I 10] 3)) (by (repeat' (first | assumption | exact Below.refl _ _ | refine Below.drew ?_ | refine below_drewN ?_ _ | refine Below.setCell ?_ (by first | omega | (simp; done) | (simp; omega)) _ | refine Below.alloc ?_ (by first | omega | (simp; done) | (simp; omega)) _ | refine Below.trans ?_ (Below.mono (by assumption) (by first | omega | (simp; done) | (simp; omega)))))) (hB3.mono (by simp))
      refine hK _ _ (fun _ => hB4) ?_
      clear hK K hB3
      (refine ordQ_li rfl rfl rfl (fun K hK => ?_); go_simp; refine hK _ ?_; clear hK K)
      (refine ordQ_li rfl rfl rfl (fun K hK => ?_); go_simp; refine hK _ ?_; clear hK K)
      (refine ordQ_li rfl rfl rfl (fun K hK => ?_); go_simp; refine hK _ ?_; clear hK K)
      (refine ordQ_li rfl rfl rfl (fun K hK => ?_); go_simp; refine hK _ ?_; clear hK K)
      (refine ordQ_li rfl rfl rfl (fun K hK => ?_); go_simp; refine hK _ ?_; clear hK K)
      refine ordQ_fin ?_
      go_wp2_with (fail)
      go_roundw
      case rel => exact ⟨1, rfl, rfl, by omega, Lib.hid (HB.out.trans (hB4.mono HB.out.size))⟩
      case measure => simp [intOf]
    · go_wp2_with (fail)
      refine (wpIn_wide (n := 9)).1 ?_
      refine wpIn_region_plan (Plan.ons [0, 2, 1, 3, 4, 5, 6, 7, 8, 9, 10] .fin) [0, 2] (fun W => Below wr.heap.size wr W) [] rfl (by kernel_rfl) (by kernel_rfl) (fun _ d _ _ _ h => by cases d <;> exact h) (Below.refl _ _).drew ?_
      (refine ordQ_held (.agg #[.slice A1 3 3, .slice A2 3 3, .slice A3 2 2]) rfl rfl rfl rfl (fun W' hC' => ?_) (fun K hK => ?_); (focus (obtain ⟨g0, g1, g2⟩ := HXr.out _ hC'; go_simp; try exact ⟨rfl, rfl⟩)); go_simp; refine hK _ ?_; clear hK K)
      (refine ordQ_held (I 1) rfl rfl rfl rfl (fun W' hC' => ?_) (fun K hK => ?_); (focus (obtain ⟨g0, g1, g2⟩ := HXr.out _ hC'; go_simp; try exact ⟨rfl, rfl⟩)); go_simp; refine hK _ ?_; clear hK K)
      refine ordQ_hv rfl rfl rfl (fun K hK => ?_)
      gi_wp2
      refine hK _ _ (fun _ => by (repeat' (first | assumption | exact Below.refl _ _ | refine Below.drew ?_ | refine below_drewN ?_ _ | refine Below.setCell ?_ (by first | omega | (simp; done) | (simp; omega)) _ | refine Below.alloc ?_ (by first | omega | (simp; done) | (simp; omega)) _ | refine Below.trans ?_ (Below.mono (by assumption) (by first | omega | (simp; done) | (simp; omega)))))) ?_
      clear hK K
      (refine ordQ_li rfl rfl rfl (fun K hK => ?_); go_simp; refine hK _ ?_; clear hK K)
      (refine ordQ_li rfl rfl rfl (fun K hK => ?_); go_simp; refine hK _ ?_; clear hK K)
      refine ordQ_hv rfl rfl rfl (fun K hK => ?_)
      gi_wp2_with (first | (refine And.intro trivial ?_; gi_at_call 16; refine (callsIn_wide.2 (H16_5.out _ _ _ _ (HC.out _ (by (repeat' (first | assumption | exact Below.refl _ _ | refine Below.drew ?_ | refine below_drewN ?_ _ | refine Below.setCell ?_ (by first | omega | (simp; done) | (simp; omega)) _ | refine Below.alloc ?_ (by first | omega | (simp; done) | (simp; omega)) _ | refine Below.trans ?_ (Below.mono (by assumption) (by first | omega | (simp; done) | (simp; omega))))))).1 (HC.out _ (by (repeat' (first | assumption | exact Below.refl _ _ | refine Below.drew ?_ | refine below_drewN ?_ _ | refine Below.setCell ?_ (by first | omega | (simp; done) | (simp; omega)) _ | refine Below.alloc ?_ (by first | omega | (simp; done) | (simp; omega)) _ | refine Below.trans ?_ (Below.mono (by assumption) (by first | omega | (simp; done) | (simp; omega))))))).2)).mono ?_; rintro e w3 ⟨rfl, hB3⟩) | fail)
      have hB4 : Below wr.heap.size wr w3 := Below.trans (b := wr.drew.alloc (.cells #[I 4, I 5, I 9, I 10] 3)) (by (repeat' (first | assumption | exact Below.refl _ _ | refine Below.drew ?_ | refine below_drewN ?_ _ | refine Below.setCell ?_ (by first | omega | (simp; done) | (simp; omega)) _ | refine Below.alloc ?_ (by first | omega | (simp; done) | (simp; omega)) _ | refine Below.trans ?_ (Below.mono (by assumption) (by first | omega | (simp; done) | (simp; omega)))))) (hB3.mono (by simp))
      refine hK _ _ (fun _ => hB4) ?_
      clear hK K hB3
      (refine ordQ_li rfl rfl rfl (fun K hK => ?_); go_simp; refine hK _ ?_; clear hK K)
      (refine ordQ_li rfl rfl rfl (fun K hK => ?_); go_simp; refine hK _ ?_; clear hK K)
      (refine ordQ_li rfl rfl rfl (fun K hK => ?_); go_simp; refine hK _ ?_; clear hK K)
      (refine ordQ_li rfl rfl rfl (fun K hK => ?_); go_simp; refine hK _ ?_; clear hK K)
      (refine ordQ_li rfl rfl rfl (fun K hK => ?_); go_simp; refine hK _ ?_; clear hK K)
      refine ordQ_fin ?_
      go_wp2_with (fail)
      go_roundw
      case rel => exact ⟨2, rfl, rfl, by omega, Lib.hid (HB.out.trans (hB4.mono HB.out.size))⟩
      case measure => simp [intOf]
    · go_wp2_with (fail)
      refine (wpIn_wide (n := 9)).1 ?_
      refine wpIn_region_plan (Plan.ons [0, 2, 1, 3, 4, 5, 6, 7, 8, 9, 10] .fin) [0, 2] (fun W => Below wr.heap.size wr W) [] rfl (by kernel_rfl) (by kernel_rfl) (fun _ d _ _ _ h => by cases d <;> exact h) (Below.refl _ _).drew ?_
      (refine ordQ_held (.agg #[.slice A1 3 3, .slice A2 3 3, .slice A3 2 2]) rfl rfl rfl rfl (fun W' hC' => ?_) (fun K hK => ?_); (focus (obtain ⟨g0, g1, g2⟩ := HXr.out _ hC'; go_simp; try exact ⟨rfl, rfl⟩)); go_simp; refine hK _ ?_; clear hK K)
      (refine ordQ_held (I 2) rfl rfl rfl rfl (fun W' hC' => ?_) (fun K hK => ?_); (focus (obtain ⟨g0, g1, g2⟩ := HXr.out _ hC'; go_simp; try exact ⟨rfl, rfl⟩)); go_simp; refine hK _ ?_; clear hK K)
      refine ordQ_hv rfl rfl rfl (fun K hK => ?_)
      gi_wp2
      refine hK _ _ (fun _ => by (repeat' (first | assumption | exact Below.refl _ _ | refine Below.drew ?_ | refine below_drewN ?_ _ | refine Below.setCell ?_ (by first | omega | (simp; done) | (simp; omega)) _ | refine Below.alloc ?_ (by first | omega | (simp; done) | (simp; omega)) _ | refine Below.trans ?_ (Below.mono (by assumption) (by first | omega | (simp; done) | (simp; omega)))))) ?_
      clear hK K
      (refine ordQ_li rfl rfl rfl (fun K hK => ?_); go_simp; refine hK _ ?_; clear hK K)
      (refine ordQ_li rfl rfl rfl (fun K hK => ?_); go_simp; refine hK _ ?_; clear hK K)
      refine ordQ_hv rfl rfl rfl (fun K hK => ?_)
      gi_wp2_with (first | (refine And.intro trivial ?_; gi_at_call 16; refine (callsIn_wide.2 (H16_9.out _ _ _ _ (HC.out _ (by (repeat' (first | assumption | exact Below.refl _ _ | refine Below.drew ?_ | refine below_drewN ?_ _ | refine Below.setCell ?_ (by first | omega | (simp; done) | (simp; omega)) _ | refine Below.alloc ?_ (by first | omega | (simp; done) | (simp; omega)) _ | refine Below.trans ?_ (Below.mono (by assumption) (by first | omega | (simp; done) | (simp; omega))))))).1 (HC.out _ (by (repeat' (first | assumption | exact Below.refl _ _ | refine Below.drew ?_ | refine below_drewN ?_ _ | refine Below.setCell ?_ (by first | omega | (simp; done) | (simp; omega)) _ | refine Below.alloc ?_ (by first | omega | (simp; done) | (simp; omega)) _ | refine Below.trans ?_ (Below.mono (by assumption) (by first | omega | (simp; done) | (simp; omega))))))).2)).mono ?_; rintro e w3 ⟨rfl, hB3⟩) | fail)
      have hB4 : Below wr.heap.size wr w3 := Below.trans (b := wr.drew.alloc (.cells #[I 4, I 5, I 9, I 10] 3)) (by (repeat' (first | assumption | exact Below.refl _ _ | refine Below.drew ?_ | refine below_drewN ?_ _ | refine Below.setCell ?_ (by first | omega | (simp; done) | (simp; omega)) _ | refine Below.alloc ?_ (by first | omega | (simp; done) | (simp; omega)) _ | refine Below.trans ?_ (Below.mono (by assumption) (by first | omega | (simp; done) | (simp; omega)))))) (hB3.mono (by simp))
      refine hK _ _ (fun _ => hB4) ?_
      clear hK K hB3
      (refine ordQ_li rfl rfl rfl (fun K hK => ?_); go_simp; refine hK _ ?_; clear hK K)
      (refine ordQ_li rfl rfl rfl (fun K hK => ?_); go_simp; refine hK _ ?_; clear hK K)
      (refine ordQ_li rfl rfl rfl (fun K hK => ?_); go_simp; refine hK _ ?_; clear hK K)
      (refine ordQ_li rfl rfl rfl (fun K hK => ?_); go_simp; refine hK _ ?_; clear hK K)
      (refine ordQ_li rfl rfl rfl (fun K hK => ?_); go_simp; refine hK _ ?_; clear hK K)
      refine ordQ_fin ?_
      go_wp2_with (fail)
      go_roundw
      case rel => exact ⟨3, rfl, rfl, by omega, Lib.hid (HB.out.trans (hB4.mono HB.out.size))⟩
      case measure => simp [intOf]
    · go_wp2_with (fail)
      refine (wpIn_wide (n := 9)).1 ?_
      refine wpIn_region_plan (Plan.ons [0, 2, 1, 3, 4, 5, 6, 7, 8, 9, 10] .fin) [0, 2] (fun W => Below wr.heap.size wr W) [] rfl (by kernel_rfl) (by kernel_rfl) (fun _ d _ _ _ h => by cases d <;> exact h) (Below.refl _ _).drew ?_
      (refine ordQ_held (.agg #[.slice A1 3 3, .slice A2 3 3, .slice A3 2 2]) rfl rfl rfl rfl (fun W' hC' => ?_) (fun K hK => ?_); (focus (obtain ⟨g0, g1, g2⟩ := HXr.out _ hC'; go_simp; try exact ⟨rfl, rfl⟩)); go_simp; refine hK _ ?_; clear hK K)
      (refine ordQ_held (I 3) rfl rfl rfl rfl (fun W' hC' => ?_) (fun K hK => ?_); (focus (obtain ⟨g0, g1, g2⟩ := HXr.out _ hC'; go_simp; try exact ⟨rfl, rfl⟩)); go_simp; refine hK _ ?_; clear hK K)
      refine ordQ_hv rfl rfl rfl (fun K hK => ?_)
      gi_wp2
      refine hK _ _ (fun _ => by (repeat' (first | assumption | exact Below.refl _ _ | refine Below.drew ?_ | refine below_drewN ?_ _ | refine Below.setCell ?_ (by first | omega | (simp; done) | (simp; omega)) _ | refine Below.alloc ?_ (by first | omega | (simp; done) | (simp; omega)) _ | refine Below.trans ?_ (Below.mono (by assumption) (by first | omega | (simp; done) | (simp; omega)))))) ?_
      clear hK K
      (refine ordQ_li rfl rfl rfl (fun K hK => ?_); go_simp; refine hK _ ?_; clear hK K)
      (refine ordQ_li rfl rfl rfl (fun K hK => ?_); go_simp; refine hK _ ?_; clear hK K)
      refine ordQ_hv rfl rfl rfl (fun K hK => ?_)
      gi_wp2_with (first | (refine And.intro trivial ?_; gi_at_call 16; refine (callsIn_wide.2 (H16_10.out _ _ _ _ (HC.out _ (by (repeat' (first | assumption | exact Below.refl _ _ | refine Below.drew ?_ | refine below_drewN ?_ _ | refine Below.setCell ?_ (by first | omega | (simp; done) | (simp; omega)) _ | refine Below.alloc ?_ (by first | omega | (simp; done) | (simp; omega)) _ | refine Below.trans ?_ (Below.mono (by assumption) (by first | omega | (simp; done) | (simp; omega))))))).1 (HC.out _ (by (repeat' (first | assumption | exact Below.refl _ _ | refine Below.drew ?_ | refine below_drewN ?_ _ | refine Below.setCell ?_ (by first | omega | (simp; done) | (simp; omega)) _ | refine Below.alloc ?_ (by first | omega | (simp; done) | (simp; omega)) _ | refine Below.trans ?_ (Below.mono (by assumption) (by first | omega | (simp; done) | (simp; omega))))))).2)).mono ?_; rintro e w3 ⟨rfl, hB3⟩) | fail)
      have hB4 : Below wr.heap.size wr w3 := Below.trans (b := wr.drew.alloc (.cells #[I 4, I 5, I 9, I 10] 3)) (by (repeat' (first | assumption | exact Below.refl _ _ | refine Below.drew ?_ | refine below_drewN ?_ _ | refine Below.setCell ?_ (by first | omega | (simp; done) | (simp; omega)) _ | refine Below.alloc ?_ (by first | omega | (simp; done) | (simp; omega)) _ | refine Below.trans ?_ (Below.mono (by assumption) (by first | omega | (simp; done) | (simp; omega)))))) (hB3.mono (by simp))
      refine hK _ _ (fun _ => hB4) ?_
      clear hK K hB3
      (refine ordQ_li rfl rfl rfl (fun K hK => ?_); go_simp; refine hK _ ?_; clear hK K)
      (refine ordQ_li rfl rfl rfl (fun K hK => ?_); go_simp; refine hK _ ?_; clear hK K)
      (refine ordQ_li rfl rfl rfl (fun K hK => ?_); go_simp; refine hK _ ?_; clear hK K)
      (refine ordQ_li rfl rfl rfl (fun K hK => ?_); go_simp; refine hK _ ?_; clear hK K)
      (refine ordQ_li rfl rfl rfl (fun K hK => ?_); go_simp; refine hK _ ?_; clear hK K)
      refine ordQ_fin ?_
      go_wp2_with (fail)
      go_roundw
      case rel => exact ⟨4, rfl, rfl, by omega, Lib.hid (HB.out.trans (hB4.mono HB.out.size))⟩
      case measure => simp [intOf]
    · have HBr := HB
      go_wp2_with (first
        | (go_at_call 26; refine (H26a.out _ _ _ _ (HX.out _ HB.out).2.2.1 (HX.out _ HB.out).2.2.2.1).mono ?_; rintro e w4 ⟨rfl, hB4⟩; clear H26a; replace HB := Lib.hid (HB.out.trans (hB4.mono HB.out.size)); obtain ⟨⟨x0, x1, x2⟩, _⟩ := HX.out _ HB.out; clear hB4)
        | (go_at_call 26; refine (H26b.out _ _ _ _ (HX.out _ HB.out).2.2.1 (HX.out _ HB.out).2.2.2.1).mono ?_; rintro e w5 ⟨rfl, hB5⟩; clear H26b; replace HB := Lib.hid (HB.out.trans (hB5.mono HB.out.size)); obtain ⟨⟨x0, x1, x2⟩, _⟩ := HX.out _ HB.out
           have hB6 := below1 w5 (.cells #[I 0, I 0, I 10, I 2, I 1, I 9] 56); replace HB := Lib.hid (HB.out.trans (hB6.mono HB.out.size)); have HL := Lib.hid (threes_new w5 0 0 10 2 1 9 56); clear hB5 hB6)
        | (go_at_call 14; refine (H14.out _ _ _ _ _ (HX.out _ HB.out).2.2.1 HL.out).mono ?_; rintro e w6 ⟨rfl, hB6⟩; replace HB := Lib.hid (HB.out.trans (hB6.mono HB.out.size)); clear hB6)
        | (go_at_call 29; refine (H29.out _).mono ?_; rintro e w7 ⟨B1, B2, B3, rfl, hV7, hB7⟩; have HV7 := Lib.hid hV7; replace HB := Lib.hid (HB.out.trans (hB7.mono HB.out.size)); clear hB7 hV7)
        | (go_at_call 16; refine (H16s.out _ _ _ _ HV7.out (HX.out _ HB.out).2.2.2.1).mono ?_; rintro e w8 ⟨rfl, hB8⟩; replace HB := Lib.hid (HB.out.trans (hB8.mono HB.out.size)); clear hB8)
        | (go_at_call 13; refine (H13.out _ (HX.out _ HB.out).2.2.2.1).mono ?_; rintro e w9 ⟨rfl, hB9⟩; replace HB := Lib.hid (HB.out.trans (hB9.mono HB.out.size)); clear hB9)
        | fail)
      exact bodyPost_ret (v := .bool true) (by simp [results, Tryd.results11, go_sem]) rfl ⟨rfl, (HX.out _ HB.out).2.2.2.2.1⟩
end Go.Proofs.YtomfnldlnoiloaaDoor
