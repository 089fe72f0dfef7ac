/- The document's load, Load. -/
import Derived.Test.YtilmlgngnbokfaaX4
namespace Go.Proofs.Ytilmlgngnbokfaa
set_option linter.unusedVariables false
set_option linter.unusedSimpArgs false
open Go.RowKit

theorem presN_all {d : Deck} {c : Int} (h : d.ok c) (i : Nat) :
    presN d i = bestU (leftOf d.lengths i) (rightOf d.lengths i) d.weight d.apart d.persons d.apart.toNat + halfU (leftOf d.lengths i) (rightOf d.lengths i) d.own := by
  obtain ⟨hl, hr⟩ := beam_bd h i
  obtain ⟨_, _, _, _, _, _, o5, o6, _⟩ := h
  rw [best_all hl hr o5 o6]
  rfl
theorem Deck.ok_more {d : Deck} {c c' : Int} (h : d.ok c) (hc : c ≤ c') : d.ok c' := by
  obtain ⟨a1, a2, a3, a4, a5⟩ := h
  exact ⟨a1, a2, a3, fun k hk => by have := a4 k hk; omega, a5⟩

set_option maxRecDepth 100000 in
set_option maxHeartbeats 2000000 in
theorem refload_any (Ap Al : Option Addr) (cp cl : Nat) (d : Deck) (i : Nat) (w : World) (ha : DeckAt w Ap Al d) (hd : d.ok 1000000) (hi : i < d.posts.length) :
    Calls Try.prog 47 #[d.val Ap Al cp cl, I i] w fun e w' => e = .returned (Rat2 (pres d i).1 (pres d i).2) ∧ Below w.heap.size w w' := by
  have hcm := fun W (hB : Below w.heap.size w W) => common_any Ap Al cp cl d i W (ha.below hB) hd hi
  have hhf := fun W (hB : Below w.heap.size w W) => half_any Ap Al cp cl d i W (ha.below hB) hd hi
  have hws := fun W (hB : Below w.heap.size w W) => worst_any Ap Al cp cl d i W (ha.below hB) hd hi
  have hpn := presN_all hd i
  obtain ⟨v1, v2, v3, v4⟩ := pres_bd hd i hi
  have hb0 := beam_bd hd i
  have hh := half_bd hb0.1 hb0.2 hd.2.2.2.2.2.1
  generalize bestU (leftOf d.lengths i) (rightOf d.lengths i) d.weight d.apart d.persons d.apart.toNat = bu at *
  generalize halfU (leftOf d.lengths i) (rightOf d.lengths i) d.own = hu at *
  have hrt := fun W => ratio_any (presN d i) (presC d i) W v3 (by omega) (by omega) (by omega)
  have hbd := best_bd (pe := d.persons) hb0.1 hb0.2 hd.2.2.2.2.2.2.1 hd.2.2.2.2.2.2.2.1 hd.2.2.2.2.2.2.2.2
  have hbu : presN d i = bu + hu := hpn
  have hpr : (pres d i).1 = presN d i / gcdI (presN d i) (presC d i) ∧ (pres d i).2 = presC d i / gcdI (presN d i) (presC d i) := ⟨rfl, rfl⟩
  rw [← hpr.1, ← hpr.2] at hrt
  generalize (pres d i).1 = p1 at *
  generalize (pres d i).2 = p2 at *
  have w1' : IntKind.i64.wrap (bu + hu) = bu + hu := IntWalk.i64_in _ (by omega)
  rw [hpn] at hrt
  have HW1 := Lib.hid w1'
  generalize presC d i = C at *
  clear hpr hbu hpn hbd hh v4 v3 hb0 hd w1' ha
  obtain ⟨ps, ls, own, wt, ap, pe⟩ := d
  simp only [Deck.val] at *
  have HCM := Lib.hid hcm
  have HHF := Lib.hid hhf
  have HWS := Lib.hid hws
  have HRT := Lib.hid hrt
  clear hcm hhf hws hrt
  go_enter Try.func47, Try.ntmps47
  go_wp2
  have hcells : ∀ W, Below (w.heap.size + 1) (w.alloc (.cells #[.slice Ap ps.length cp, .slice Al ls.length cl, I own, I wt, I ap, I pe] 24)) W →
      W.cell? ⟨w.heap.size, 0, none⟩ = some (.slice Ap ps.length cp) ∧ W.cell? ⟨w.heap.size, 1, none⟩ = some (.slice Al ls.length cl) ∧ W.cell? ⟨w.heap.size, 2, none⟩ = some (I own) ∧ W.cell? ⟨w.heap.size, 3, none⟩ = some (I wt) ∧ W.cell? ⟨w.heap.size, 4, none⟩ = some (I ap) ∧ W.cell? ⟨w.heap.size, 5, none⟩ = some (I pe) := fun W hB => by
    refine ⟨?_, ?_, ?_, ?_, ?_, ?_⟩ <;> (rw [hB.cell (p := ⟨w.heap.size, _, none⟩) (by simp)]; simp [go_sem])
  have HCE := Lib.hid hcells
  clear hcells
  have w1' := HW1.out
  generalize hw0 : World.alloc _ (.cells #[Value.int IntKind.i64 0, Value.int IntKind.i64 0] 33) = w0
  have hB0 : Below (w.heap.size + 1) (w.alloc (.cells #[.slice Ap ps.length cp, .slice Al ls.length cl, I own, I wt, I ap, I pe] 24)) w0 := by rw [← hw0]; (repeat' (first | assumption | exact Below.refl _ _ | refine Below.drew ?_ | refine below_drewN ?_ _ | refine Below.setCell ?_ (by first | omega | (simp; done) | (simp; omega)) _ | refine Below.alloc ?_ (by first | omega | (simp; done) | (simp; omega)) _ | refine Below.trans ?_ (Below.mono (by assumption) (by first | omega | (simp; done) | (simp; omega)))))
  have hr0 : w0.cell? ⟨w.heap.size + 1, 0, none⟩ = some (I 0) ∧ w0.cell? ⟨w.heap.size + 1, 1, none⟩ = some (I 0) ∧ w0.frozen? ⟨w.heap.size + 1, 0, none⟩ = false ∧ w0.frozen? ⟨w.heap.size + 1, 1, none⟩ = false ∧ w0.heap.size = w.heap.size + 2 := by rw [← hw0]; simp [go_sem]
  have HR0 := Lib.hid hr0
  clear hw0 hr0
  have hlow : ∀ W, Below w0.heap.size w0 W → Below w.heap.size w W := fun W hB =>
    ((Below.refl _ w).alloc (Nat.le_refl _) _).trans ((hB0.trans (hB.mono (by have := HR0.out.2.2.2.2; omega))).mono (Nat.le_succ _))
  have HLOW := Lib.hid hlow
  clear hlow
  have hdk : ∀ W, Below w0.heap.size w0 W → W.cell? ⟨w.heap.size, 0, none⟩ = some (.slice Ap ps.length cp) ∧ W.cell? ⟨w.heap.size, 1, none⟩ = some (.slice Al ls.length cl) ∧ W.cell? ⟨w.heap.size, 2, none⟩ = some (I own) ∧ W.cell? ⟨w.heap.size, 3, none⟩ = some (I wt) ∧ W.cell? ⟨w.heap.size, 4, none⟩ = some (I ap) ∧ W.cell? ⟨w.heap.size, 5, none⟩ = some (I pe) := fun W hB =>
    HCE.out W (hB0.trans (hB.mono (by have := HR0.out.2.2.2.2; omega)))
  have HDK := Lib.hid hdk
  clear hdk HCE
  refine (wpIn_wide (n := 9)).1 ?_
  refine wpIn_region_plan (Plan.ons [0, 1, 3, 4, 7, 8, 2, 5, 6, 9, 10, 11] .fin) [0, 1, 3, 4, 7, 8, 6]
    (fun W' => Below w0.heap.size w0 W') [11] rfl (by kernel_rfl) (by kernel_rfl) (fun _ d _ _ _ h => by cases d <;> exact h) (Below.refl _ _).drew ?_
  iterate 3
    refine ordQ_held (.agg #[.slice Ap ps.length cp, .slice Al ls.length cl, I own, I wt, I ap, I pe]) rfl rfl rfl rfl (fun W' hC' => ?_) (fun K hK => ?_)
    · obtain ⟨c0, c1, c2, c3, c4, c5⟩ := HDK.out _ hC'
      clear hC'
      go_simp
      try exact ⟨rfl, rfl⟩
    go_simp
    refine hK _ ?_
    clear hK K
    (refine ordQ_held (I i) rfl rfl rfl rfl (fun W' hC' => ?_) (fun K hK => ?_); (focus (obtain _ := hC'; go_simp; try exact ⟨rfl, rfl⟩)); go_simp; refine hK _ ?_; clear hK K)
  refine ordQ_hv rfl rfl rfl (fun K hK => ?_)
  gi_wp2_with (refine And.intro trivial ?_; gi_at_call 75; refine callsIn_wide.2 ((HWS.out _ (HLOW.out _ (Below.refl _ _).drew)).mono ?_); rintro e w2 ⟨rfl, hB2⟩)
  have hb2 : Below w0.heap.size w0 w2 := by simpa using (Below.refl _ _).drew.trans hB2
  refine hK _ _ (fun _ => hb2) ?_
  clear hK K hB2
  refine ordQ_hv rfl rfl rfl (fun K hK => ?_)
  gi_wp2_with (refine And.intro trivial ?_; gi_at_call 20; refine callsIn_wide.2 ((HHF.out _ (HLOW.out _ hb2)).mono ?_); rintro e w3 ⟨rfl, hB3⟩)
  have hb3 := hb2.trans (hB3.mono hb2.size)
  refine hK _ _ (fun _ => hb3) ?_
  clear hK K hB3
  (refine ordQ_held (I (bu + hu)) rfl rfl rfl rfl (fun W' hC' => ?_) (fun K hK => ?_); (focus (obtain _ := hC'; go_simp; try exact ⟨rfl, rfl⟩)); go_simp; refine hK _ ?_; clear hK K)
  refine ordQ_hv rfl rfl rfl (fun K hK => ?_)
  gi_wp2_with (refine And.intro trivial ?_; gi_at_call 17; refine callsIn_wide.2 ((HCM.out _ (HLOW.out _ hb3)).mono ?_); rintro e w4 ⟨rfl, hB4⟩)
  have hb4 := hb3.trans (hB4.mono hb3.size)
  refine hK _ _ (fun _ => hb4) ?_
  clear hK K hB4
  refine ordQ_hv rfl rfl rfl (fun K hK => ?_)
  gi_wp2_with (refine And.intro trivial ?_; gi_at_call 19; refine callsIn_wide.2 ((HRT.out _).mono ?_); rintro e w5 ⟨rfl, hB5⟩)
  have hb5 := hb4.trans (hB5.mono hb4.size)
  refine hK _ _ (fun _ => hb5) ?_
  clear hK K hB5
  have r0 := (hb5.cell (p := ⟨w.heap.size + 1, 0, none⟩) (by have := HR0.out.2.2.2.2; simp; omega)).trans HR0.out.1
  have r1 := (hb5.cell (p := ⟨w.heap.size + 1, 1, none⟩) (by have := HR0.out.2.2.2.2; simp; omega)).trans HR0.out.2.1
  have f0 := (hb5.frozen (p := ⟨w.heap.size + 1, 0, none⟩) (by have := HR0.out.2.2.2.2; simp; omega)).trans HR0.out.2.2.1
  have f1 := (hb5.frozen (p := ⟨w.heap.size + 1, 1, none⟩) (by have := HR0.out.2.2.2.2; simp; omega)).trans HR0.out.2.2.2.1
  refine ordQ_hv rfl rfl rfl (fun K hK => ?_)
  gi_wp2
  refine hK _ _ (fun h => by cases h) ?_
  clear hK K
  refine ordQ_fin ?_
  go_wp2
  refine bodyPost_ret (v := Rat2 p1 p2) (by simp [results, Try.results47, go_sem, r0, r1]) rfl ⟨rfl, ?_⟩
  exact ((HLOW.out _ hb5).setCell (by simp) _).setCell (by simp) _
end Go.Proofs.Ytilmlgngnbokfaa
