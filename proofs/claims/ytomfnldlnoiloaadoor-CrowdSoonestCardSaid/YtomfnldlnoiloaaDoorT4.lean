/- A move is made, or cannot be made. -/
import Derived.Test.YtomfnldlnoiloaaDoorT3
namespace Go.Proofs.YtomfnldlnoiloaaDoor
set_option linter.unusedVariables false
set_option linter.unusedSimpArgs false
open Go Go.RowKit Go.Maps

/-- What move ends with. -/
def MoveEnds (w : World) (base : Nat) (v : Vis) (A1 A2 A3 : Option Addr) (q1 q2 q3 db tb mb : Nat) (th : Nat → Int) (com : Nat → Nat → Int) (t k : Nat) (c a : Int) (e : Ending) (w' : World) : Prop :=
  ((v.far k).2.2.2 < a + c → e = .panicked [{ v := misV 9, recovered := false }] ∧ Below w.heap.size w w') ∧
  (¬ (v.far k).2.2.2 < a + c → th (v.far k).1.toNat < c → e = .panicked [{ v := misV 10, recovered := false }] ∧ Below w.heap.size w w') ∧
  (¬ (v.far k).2.2.2 < a + c → ¬ th (v.far k).1.toNat < c → e = .returned (.tuple #[]) ∧ Frm w.heap.size (fun b => b = tb ∨ b = mb) w w' ∧
    DayAt w' base v A1 A2 A3 q1 q2 q3 db tb mb (thL v.rm.length fun q => if q = (v.far k).1.toNat then th q - c else th q) (fun p u => if p = (v.far k).2.1.toNat ∧ u = t + (v.far k).2.2.1.toNat then com p u + c else com p u))
set_option maxRecDepth 100000 in
set_option maxHeartbeats 8000000 in
theorem move37 (v : Vis) (hv : VisOk v) (A1 A2 A3 : Option Addr) (q1 q2 q3 base db tb mb t k : Nat) (ht : t ≤ 60) (hk : k < v.tr.length) (c a : Int) (hc : 0 ≤ c ∧ c ≤ 1000) (ha : 0 ≤ a ∧ a ≤ 1000000) (th : Nat → Int) (com : Nat → Nat → Int) (w : World) (hI : VisAt w base v A1 A2 A3)
    (hD : DayAt w base v A1 A2 A3 q1 q2 q3 db tb mb (thL v.rm.length th) com) (hth : ∀ q, q < v.rm.length → 0 ≤ th q ∧ th q ≤ 1000000) (hcom : ∀ q u, q < v.rm.length → 0 ≤ com q u ∧ com q u ≤ 1000000) :
    Calls Tryd.prog 37 #[ptr db, .agg #[I t, I k, I c], I a] w (MoveEnds w base v A1 A2 A3 q1 q2 q3 db tb mb th com t k c a) := by
  have hn := hv.n
  unfold Vis.n at hn
  have htl := hv.tl
  have hfo := far_ok hv hk
  have hfa := v.far_at hk
  unfold Vis.n at hfo
  have HD := Lib.hid hD
  have HT := Lib.hid hth
  have HCO := Lib.hid hcom
  have hlo := hD.lo
  have hdl := hD.box.1
  have htbl := hD.th.1
  have hml := hD.map.choose_spec.choose_spec.1.lt
  obtain ⟨rb, ro, rfl, hrb, hcc⟩ := hI.tr (by omega)
  have r0 := hcc k hk
  rw [← hfa] at r0
  clear hcc hfa hI
  have e1 : (v.far k).1 = ((v.far k).1.toNat : Int) := by omega
  have e2 : (v.far k).2.1 = ((v.far k).2.1.toNat : Int) := by omega
  have e3 : (v.far k).2.2.1 = ((v.far k).2.2.1.toNat : Int) := by omega
  rw [e1, e2, e3] at r0
  clear e1 e2 e3
  obtain ⟨f, hf⟩ : ∃ z, (v.far k).1.toNat = z := ⟨_, rfl⟩
  obtain ⟨g, hg⟩ : ∃ z, (v.far k).2.1.toNat = z := ⟨_, rfl⟩
  obtain ⟨mi, hmi⟩ : ∃ z, (v.far k).2.2.1.toNat = z := ⟨_, rfl⟩
  obtain ⟨r, hr⟩ : ∃ z, (v.far k).2.2.2 = z := ⟨_, rfl⟩
  have hfb : f < v.rm.length := by omega
  have hgb : g < v.rm.length := by omega
  have hmib : mi ≤ 60 := by omega
  have hrb2 : 0 ≤ r ∧ r ≤ 1000 := by omega
  rw [hf, hg, hmi, hr] at r0
  have HR9 : Hid (r < a + c → ∀ w', Below w.heap.size w w' → MoveEnds w base v A1 (some ⟨rb, ro, none⟩) A3 q1 q2 q3 db tb mb th com t k c a (.panicked [{ v := misV 9, recovered := false }]) w') := Lib.hid fun h w' hB => by
    unfold MoveEnds
    rw [hr]
    exact ⟨fun _ => ⟨rfl, hB⟩, fun h' => absurd h h', fun h' => absurd h h'⟩
  have HR10 : Hid (¬ r < a + c → th f < c → ∀ w', Below w.heap.size w w' → MoveEnds w base v A1 (some ⟨rb, ro, none⟩) A3 q1 q2 q3 db tb mb th com t k c a (.panicked [{ v := misV 10, recovered := false }]) w') := Lib.hid fun h h2 w' hB => by
    unfold MoveEnds
    rw [hr, hf]
    exact ⟨fun h' => absurd h' h, fun _ _ => ⟨rfl, hB⟩, fun _ h' => absurd h2 h'⟩
  have HR0 : Hid (¬ r < a + c → ¬ th f < c → ∀ w', Frm w.heap.size (fun b => b = tb ∨ b = mb) w w' → DayAt w' base v A1 (some ⟨rb, ro, none⟩) A3 q1 q2 q3 db tb mb (thL v.rm.length fun q => if q = f then th f - c else th q) (fun p u => if p = g ∧ u = t + mi then com g (t + mi) + c else com p u) → MoveEnds w base v A1 (some ⟨rb, ro, none⟩) A3 q1 q2 q3 db tb mb th com t k c a (.returned (.tuple #[])) w') := Lib.hid fun h h2 w' hF hD => by
    unfold MoveEnds
    rw [hr, hf, hg, hmi]
    refine ⟨fun h' => absurd h' h, fun _ h' => absurd h' h2, fun _ _ => ⟨rfl, hF, ?_⟩⟩
    have e1 : (fun q => if q = f then th f - c else th q) = (fun q => if q = f then th q - c else th q) := funext fun q => by split <;> simp_all
    have e2 : (fun p u => if p = g ∧ u = t + mi then com g (t + mi) + c else com p u) = (fun p u => if p = g ∧ u = t + mi then com p u + c else com p u) := funext fun p => funext fun u => by split <;> simp_all
    rw [e1, e2] at hD
    exact hD
  clear hf hg hmi hr hfo
  generalize MoveEnds w base v A1 (some ⟨rb, ro, none⟩) A3 q1 q2 q3 db tb mb th com t k c a = R at *
  have k0 : (0 : Int) ≤ (k : Int) := by omega
  have k1 : (k : Int) < (v.tr.length : Int) := by omega
  have f0 : (0 : Int) ≤ (f : Int) := by omega
  have f1 : (f : Int) < (v.rm.length : Int) := by omega
  have hbm : Box (w.alloc (.cells #[I t, I k, I c] 56)) w.heap.size [I t, I k, I c] := Box.new w [I t, I k, I c] 56
  have hBa : Below w.heap.size w (w.alloc (.cells #[I t, I k, I c] 56)) := by (repeat' (first | assumption | exact Below.refl _ _ | refine Below.drew ?_ | refine below_drewN ?_ _ | refine Below.setCell ?_ (by first | omega | (simp; done) | (simp; omega)) _ | refine Below.alloc ?_ (by first | omega | (simp; done) | (simp; omega)) _ | refine Below.trans ?_ (Below.mono (by assumption) (by first | omega | (simp; done) | (simp; omega)))))
  have hza : (w.alloc (.cells #[I t, I k, I c] 56)).heap.size = w.heap.size + 1 := by simp
  have hDa := hD.below hBa
  have HR : Hid (∀ W, Below w.heap.size w W → W.cell? ⟨rb, ro + k * 4, none⟩ = some (I f) ∧ W.cell? ⟨rb, ro + k * 4 + 1, none⟩ = some (I g) ∧ W.cell? ⟨rb, ro + k * 4 + 2, none⟩ = some (I mi) ∧ W.cell? ⟨rb, ro + k * 4 + 3, none⟩ = some (I r)) := Lib.hid fun W h => by
    have hl : rb < w.heap.size := by omega
    exact ⟨(h.cell (p := ⟨rb, _, none⟩) hl).trans r0.1, (h.cell (p := ⟨rb, _, none⟩) hl).trans r0.2.1, (h.cell (p := ⟨rb, _, none⟩) hl).trans r0.2.2.1, (h.cell (p := ⟨rb, _, none⟩) hl).trans r0.2.2.2⟩
  clear hD hth hcom hv r0
  go_enter Tryd.func37, Tryd.ntmps37
  go_wp2_with (fail)
  obtain ⟨wa, hwa⟩ : ∃ z, w.alloc (.cells #[I t, I k, I c] 56) = z := ⟨_, rfl⟩
  rw [hwa] at hbm hBa hza hDa
  simp only [hwa]
  clear hwa
  have HC : Hid (∀ W, Below wa.heap.size wa W → (W.cell? ⟨w.heap.size, 1, none⟩ = some (I k) ∧ W.cell? ⟨db, 1, none⟩ = some (.slice (some ⟨rb, ro, none⟩) v.tr.length q2)) ∧ W.cell? ⟨rb, ro + k * 4, none⟩ = some (I f) ∧ W.cell? ⟨rb, ro + k * 4 + 1, none⟩ = some (I g) ∧ W.cell? ⟨rb, ro + k * 4 + 2, none⟩ = some (I mi) ∧ W.cell? ⟨rb, ro + k * 4 + 3, none⟩ = some (I r)) := Lib.hid fun W h =>
    ⟨⟨((hbm.call h).at_ 1 _ rfl).1, ((hDa.box.call h).at_ 1 _ rfl).1⟩, HR.out W (hBa.trans (h.mono (by omega)))⟩
  refine (wpIn_wide (n := 9)).1 ?_
  refine wpIn_region_plan (Plan.ons [0, 1, 2, 3, 4, 5, 6, 7, 8, 9, 10] .fin) [0, 1, 2, 3, 4, 5, 6, 7, 8] (fun W => Below wa.heap.size wa W) [10] rfl (by kernel_rfl) (by kernel_rfl) (fun _ d _ _ _ h => by cases d <;> exact h) (Below.refl _ _).drew ?_
  (refine ordQ_held (ptr db) rfl rfl rfl rfl (fun W' hC' => ?_) (fun K hK => ?_); (focus (obtain ⟨⟨g0, g1⟩, g2, g3, g4, g5⟩ := HC.out _ hC'; go_simp; try exact ⟨rfl, rfl⟩)); go_simp; refine hK _ ?_; clear hK K)
  (refine ordQ_held (ptr db) rfl rfl rfl rfl (fun W' hC' => ?_) (fun K hK => ?_); (focus (obtain ⟨⟨g0, g1⟩, g2, g3, g4, g5⟩ := HC.out _ hC'; go_simp; try exact ⟨rfl, rfl⟩)); go_simp; refine hK _ ?_; clear hK K)
  (refine ordQ_held (ptr db) rfl rfl rfl rfl (fun W' hC' => ?_) (fun K hK => ?_); (focus (obtain ⟨⟨g0, g1⟩, g2, g3, g4, g5⟩ := HC.out _ hC'; go_simp; try exact ⟨rfl, rfl⟩)); go_simp; refine hK _ ?_; clear hK K)
  (refine ordQ_held (.pointer (some ⟨db, 1, none⟩)) rfl rfl rfl rfl (fun W' hC' => ?_) (fun K hK => ?_); (focus (obtain ⟨⟨g0, g1⟩, g2, g3, g4, g5⟩ := HC.out _ hC'; go_simp; try exact ⟨rfl, rfl⟩)); go_simp; refine hK _ ?_; clear hK K)
  (refine ordQ_held (.slice (some ⟨rb, ro, none⟩) v.tr.length q2) rfl rfl rfl rfl (fun W' hC' => ?_) (fun K hK => ?_); (focus (obtain ⟨⟨g0, g1⟩, g2, g3, g4, g5⟩ := HC.out _ hC'; go_simp; try exact ⟨rfl, rfl⟩)); go_simp; refine hK _ ?_; clear hK K)
  (refine ordQ_held (.pointer (some ⟨w.heap.size, 1, none⟩)) rfl rfl rfl rfl (fun W' hC' => ?_) (fun K hK => ?_); (focus (obtain ⟨⟨g0, g1⟩, g2, g3, g4, g5⟩ := HC.out _ hC'; go_simp; try exact ⟨rfl, rfl⟩)); go_simp; refine hK _ ?_; clear hK K)
  (refine ordQ_held (I k) rfl rfl rfl rfl (fun W' hC' => ?_) (fun K hK => ?_); (focus (obtain ⟨⟨g0, g1⟩, g2, g3, g4, g5⟩ := HC.out _ hC'; go_simp; try exact ⟨rfl, rfl⟩)); go_simp; refine hK _ ?_; clear hK K)
  (refine ordQ_held (.pointer (some ⟨rb, ro + k * 4, none⟩)) rfl rfl rfl rfl (fun W' hC' => ?_) (fun K hK => ?_); (focus (obtain ⟨⟨g0, g1⟩, g2, g3, g4, g5⟩ := HC.out _ hC'; go_simp; try exact ⟨rfl, rfl⟩)); go_simp; refine hK _ ?_; clear hK K)
  (refine ordQ_held (.agg #[I f, I g, I mi, I r]) rfl rfl rfl rfl (fun W' hC' => ?_) (fun K hK => ?_); (focus (obtain ⟨⟨g0, g1⟩, g2, g3, g4, g5⟩ := HC.out _ hC'; go_simp; try exact ⟨rfl, rfl⟩)); go_simp; refine hK _ ?_; clear hK K)
  refine ordQ_hv rfl rfl rfl (fun K hK => ?_)
  gi_wp2
  refine hK _ _ (fun _ => by (repeat' (first | assumption | exact Below.refl _ _ | refine Below.drew ?_ | refine below_drewN ?_ _ | refine Below.setCell ?_ (by first | omega | (simp; done) | (simp; omega)) _ | refine Below.alloc ?_ (by first | omega | (simp; done) | (simp; omega)) _ | refine Below.trans ?_ (Below.mono (by assumption) (by first | omega | (simp; done) | (simp; omega)))))) ?_
  clear hK K
  refine ordQ_hv rfl rfl rfl (fun K hK => ?_)
  gi_wp2
  refine hK _ _ (fun h => by cases h) ?_
  clear hK K
  refine ordQ_fin ?_
  have hB5 : Below wa.heap.size wa (wa.alloc (.cells #[I f, I g, I mi, I r] 51)).drew := by (repeat' (first | assumption | exact Below.refl _ _ | refine Below.drew ?_ | refine below_drewN ?_ _ | refine Below.setCell ?_ (by first | omega | (simp; done) | (simp; omega)) _ | refine Below.alloc ?_ (by first | omega | (simp; done) | (simp; omega)) _ | refine Below.trans ?_ (Below.mono (by assumption) (by first | omega | (simp; done) | (simp; omega)))))
  have hbx : Box (wa.alloc (.cells #[I f, I g, I mi, I r] 51)).drew wa.heap.size [I f, I g, I mi, I r] := (Box.new wa [I f, I g, I mi, I r] 51).drew
  have hbm5 := hbm.call hB5
  have hD5 := hDa.below hB5
  have hB6 := hBa.trans (hB5.mono (by omega))
  rw [hza] at hbx
  clear HC hbm hDa hB5 hBa HD HR
  generalize (wa.alloc (.cells #[I f, I g, I mi, I r] 51)).drew = W at *
  clear hza
  obtain ⟨x0, _⟩ := hbx.at_ 0 _ rfl
  obtain ⟨x1, _⟩ := hbx.at_ 1 _ rfl
  obtain ⟨x2, _⟩ := hbx.at_ 2 _ rfl
  obtain ⟨x3, _⟩ := hbx.at_ 3 _ rfl
  obtain ⟨m0, _⟩ := hbm5.at_ 0 _ rfl
  obtain ⟨m2, _⟩ := hbm5.at_ 2 _ rfl
  have hwA : IntKind.i64.wrap (a + c) = a + c := IntWalk.i64_in _ (by omega)
  by_cases h1 : r < a + c
  · have h1b : ¬ a + c ≤ r := by omega
    have h1c : decide (a + c ≤ r) = false := by simp [h1b]
    clear hbx hbm5 hD5 HT HCO
    go_wp2_with (first
      | (go_at_call 34; refine (need_no 9 _).mono ?_; rintro e w3 ⟨rfl, rfl⟩)
      | fail)
    exact ⟨rfl, HR9.out h1 _ hB6⟩
  have h1b : a + c ≤ r := by omega
  have h1c : decide (a + c ≤ r) = true := by simp [h1b]
  have hx := HT.out f hfb
  obtain ⟨tc, tz⟩ := hD5.th.at_ f _ (thL_at th hfb)
  obtain ⟨b3, _⟩ := hD5.box.at_ 3 _ rfl
  by_cases h2 : th f < c
  · have h2b : ¬ c ≤ th f := by omega
    have h2c : decide (c ≤ th f) = false := by simp [h2b]
    clear hbx hbm5 hD5 HT HCO
    go_wp2_with (first
      | (go_at_call 34; refine (need_yes 9 _).mono ?_; rintro e w3 ⟨rfl, rfl⟩)
      | fail)
    refine (wpIn_wide (n := 9)).1 ?_
    refine wpIn_region_plan (Plan.ons [0, 1, 2, 3, 4, 5, 6, 7, 8, 9, 10, 11] .fin) [] (fun _ => True) [] rfl (by kernel_rfl) (by kernel_rfl) (fun _ d _ _ _ h => by cases d <;> exact h) trivial ?_
    (refine ordQ_li rfl rfl rfl (fun K hK => ?_); go_simp; refine hK _ ?_; clear hK K)
    (refine ordQ_li rfl rfl rfl (fun K hK => ?_); go_simp; refine hK _ ?_; clear hK K)
    (refine ordQ_li rfl rfl rfl (fun K hK => ?_); go_simp; refine hK _ ?_; clear hK K)
    (refine ordQ_li rfl rfl rfl (fun K hK => ?_); go_simp; refine hK _ ?_; clear hK K)
    (refine ordQ_li rfl rfl rfl (fun K hK => ?_); go_simp; refine hK _ ?_; clear hK K)
    (refine ordQ_li rfl rfl rfl (fun K hK => ?_); go_simp; refine hK _ ?_; clear hK K)
    (refine ordQ_li rfl rfl rfl (fun K hK => ?_); go_simp; refine hK _ ?_; clear hK K)
    (refine ordQ_li rfl rfl rfl (fun K hK => ?_); go_simp; refine hK _ ?_; clear hK K)
    (refine ordQ_li rfl rfl rfl (fun K hK => ?_); go_simp; refine hK _ ?_; clear hK K)
    (refine ordQ_li rfl rfl rfl (fun K hK => ?_); go_simp; refine hK _ ?_; clear hK K)
    (refine ordQ_li rfl rfl rfl (fun K hK => ?_); go_simp; refine hK _ ?_; clear hK K)
    refine ordQ_hv rfl rfl rfl (fun K hK => ?_)
    gi_wp2_with (first | (refine And.intro trivial ?_; gi_at_call 34; refine (callsIn_wide.2 (need_no 10 _)).mono ?_; rintro e w3 ⟨rfl, rfl⟩) | fail)
    exact ⟨rfl, HR10.out (by omega) h2 _ hB6.drew⟩
  have h2b : c ≤ th f := by omega
  have h2c : decide (c ≤ th f) = true := by simp [h2b]
  have hwB : IntKind.i64.wrap (th f - c) = th f - c := IntWalk.i64_in _ (by omega)
  go_wp2_with (first
    | (go_at_call 34; refine (need_yes 9 _).mono ?_; rintro e w3 ⟨rfl, rfl⟩)
    | fail)
  refine (wpIn_wide (n := 9)).1 ?_
  refine wpIn_region_plan (Plan.ons [0, 1, 2, 3, 4, 5, 6, 7, 8, 9, 10, 11] .fin) [] (fun _ => True) [] rfl (by kernel_rfl) (by kernel_rfl) (fun _ d _ _ _ h => by cases d <;> exact h) trivial ?_
  (refine ordQ_li rfl rfl rfl (fun K hK => ?_); go_simp; refine hK _ ?_; clear hK K)
  (refine ordQ_li rfl rfl rfl (fun K hK => ?_); go_simp; refine hK _ ?_; clear hK K)
  (refine ordQ_li rfl rfl rfl (fun K hK => ?_); go_simp; refine hK _ ?_; clear hK K)
  (refine ordQ_li rfl rfl rfl (fun K hK => ?_); go_simp; refine hK _ ?_; clear hK K)
  (refine ordQ_li rfl rfl rfl (fun K hK => ?_); go_simp; refine hK _ ?_; clear hK K)
  (refine ordQ_li rfl rfl rfl (fun K hK => ?_); go_simp; refine hK _ ?_; clear hK K)
  (refine ordQ_li rfl rfl rfl (fun K hK => ?_); go_simp; refine hK _ ?_; clear hK K)
  (refine ordQ_li rfl rfl rfl (fun K hK => ?_); go_simp; refine hK _ ?_; clear hK K)
  (refine ordQ_li rfl rfl rfl (fun K hK => ?_); go_simp; refine hK _ ?_; clear hK K)
  (refine ordQ_li rfl rfl rfl (fun K hK => ?_); go_simp; refine hK _ ?_; clear hK K)
  (refine ordQ_li rfl rfl rfl (fun K hK => ?_); go_simp; refine hK _ ?_; clear hK K)
  refine ordQ_hv rfl rfl rfl (fun K hK => ?_)
  gi_wp2_with (first | (refine And.intro trivial ?_; gi_at_call 34; refine (callsIn_wide.2 (need_yes 10 _)).mono ?_; rintro e w4 ⟨rfl, rfl⟩) | fail)
  refine hK _ _ (fun _ => trivial) ?_
  clear hK K
  refine ordQ_fin ?_
  go_wp2_with (fail)
  refine (wpIn_wide (n := 9)).1 ?_
  refine wpIn_region_plan (Plan.ons [0, 1, 2, 3, 4, 5, 6, 7, 8, 9, 10, 11, 12] .fin) [] (fun _ => True) [] rfl (by kernel_rfl) (by kernel_rfl) (fun _ d _ _ _ h => by cases d <;> exact h) trivial ?_
  (refine ordQ_li rfl rfl rfl (fun K hK => ?_); go_simp; refine hK _ ?_; clear hK K)
  (refine ordQ_li rfl rfl rfl (fun K hK => ?_); go_simp; refine hK _ ?_; clear hK K)
  (refine ordQ_li rfl rfl rfl (fun K hK => ?_); go_simp; refine hK _ ?_; clear hK K)
  (refine ordQ_li rfl rfl rfl (fun K hK => ?_); go_simp; refine hK _ ?_; clear hK K)
  (refine ordQ_li rfl rfl rfl (fun K hK => ?_); go_simp; refine hK _ ?_; clear hK K)
  (refine ordQ_li rfl rfl rfl (fun K hK => ?_); go_simp; refine hK _ ?_; clear hK K)
  (refine ordQ_li rfl rfl rfl (fun K hK => ?_); go_simp; refine hK _ ?_; clear hK K)
  (refine ordQ_li rfl rfl rfl (fun K hK => ?_); go_simp; refine hK _ ?_; clear hK K)
  (refine ordQ_li rfl rfl rfl (fun K hK => ?_); go_simp; refine hK _ ?_; clear hK K)
  (refine ordQ_li rfl rfl rfl (fun K hK => ?_); go_simp; refine hK _ ?_; clear hK K)
  (refine ordQ_li rfl rfl rfl (fun K hK => ?_); go_simp; refine hK _ ?_; clear hK K)
  (refine ordQ_li rfl rfl rfl (fun K hK => ?_); go_simp; refine hK _ ?_; clear hK K)
  refine ordQ_hv rfl rfl rfl (fun K hK => ?_)
  gi_wp2
  refine hK _ _ (fun _ => trivial) ?_
  clear hK K
  refine ordQ_fin ?_
  have hDs : DayAt (w3.setCell ⟨tb, f, none⟩ (I (th f - c))).drew.drew base v A1 (some ⟨rb, ro, none⟩) A3 q1 q2 q3 db tb mb _ com := (hD5.store f (th f - c)).drew.drew
  have hbx' : Box (w3.setCell ⟨tb, f, none⟩ (I (th f - c))).drew.drew _ _ := (hbx.far (p := ⟨tb, f, none⟩) (by dsimp only; omega) (I (th f - c))).drew.drew
  have hbm' : Box (w3.setCell ⟨tb, f, none⟩ (I (th f - c))).drew.drew _ _ := (hbm5.far (p := ⟨tb, f, none⟩) (by dsimp only; omega) (I (th f - c))).drew.drew
  have hFs : Frm w.heap.size (fun b => b = tb ∨ b = mb) w (w3.setCell ⟨tb, f, none⟩ (I (th f - c))).drew.drew := ((Frm.of_below hB6 (Nat.le_refl _)).setCell (p := ⟨tb, f, none⟩) (Or.inr (Or.inl rfl)) _).drew.drew
  clear x0 x1 x2 x3 m0 m2 tc tz b3 hbx hbm5 hD5 hB6
  generalize (w3.setCell ⟨tb, f, none⟩ (I (th f - c))).drew.drew = W at *
  go_wp2_with (fail)
  have hcm := HCO.out g (t + mi) hgb
  obtain ⟨N, fm, hm1, hm2⟩ := hDs.map
  have hu : (t : Int) + (mi : Int) = ((t + mi : Nat) : Int) := by push_cast; rfl
  have hg1 := hm2 g (t + mi) (by omega) (by omega)
  rw [← hu] at hg1
  have hput := hm2.put g (t + mi) (com g (t + mi) + c)
  rw [← hu] at hput
  obtain ⟨cm, hcm2⟩ : ∃ z, com g (t + mi) = z := ⟨_, rfl⟩
  simp only [hcm2] at hg1 hcm hput HR0
  have hwt : IntKind.i64.wrap ((t : Int) + (mi : Int)) = (t : Int) + (mi : Int) := IntWalk.i64_in _ (by omega)
  have hwC : IntKind.i64.wrap (cm + c) = cm + c := IntWalk.i64_in _ (by omega)
  have hky : IsK Tryd.prog 46 (sd g ((t : Int) + (mi : Int))) := isK46 ⟨by omega, by omega⟩ ⟨by omega, by omega⟩
  have hne := hDs.ne
  have HP := Lib.hid hput
  clear hput hu HT HCO hcm2
  have HCC : Hid (∀ W, (fun W => Box W (w.heap.size + 1) [I f, I g, I mi, I r] ∧ Box W w.heap.size [I t, I k, I c] ∧ Box W db [.slice A1 v.rm.length q1, .slice (some ⟨rb, ro, none⟩) v.tr.length q2, .slice A3 v.ar.length q3, .slice (some ⟨tb, 0, none⟩) v.rm.length v.rm.length, .map (some mb)] ∧ ∃ n fm, MapAt Tryd.prog 46 W mb n fm ∧ (fm (sd g ((t : Int) + (mi : Int)))).getD (I 0) = I cm) W → (W.cell? ⟨w.heap.size + 1, 1, none⟩ = some (I g) ∧ W.cell? ⟨w.heap.size + 1, 2, none⟩ = some (I mi)) ∧ (W.cell? ⟨w.heap.size, 0, none⟩ = some (I t) ∧ W.cell? ⟨w.heap.size, 2, none⟩ = some (I c)) ∧ W.cell? ⟨db, 4, none⟩ = some (.map (some mb)) ∧ (Instr.lookup 66 (.map (some mb)) (sd g ((t : Int) + (mi : Int))) false).run Tryd.prog W = .ok (I cm) W) := Lib.hid fun W h => by
    obtain ⟨h0, h1, h2, n, f, h3, h4⟩ := h
    exact ⟨⟨(h0.at_ 1 _ rfl).1, (h0.at_ 2 _ rfl).1⟩, ⟨(h1.at_ 0 _ rfl).1, (h1.at_ 2 _ rfl).1⟩, (h2.at_ 4 _ rfl).1, by rw [h3.lookup lawS Tryd.underlying66 (zero3 W) hky, h4]⟩
  have hC0 : (fun W => Box W (w.heap.size + 1) [I f, I g, I mi, I r] ∧ Box W w.heap.size [I t, I k, I c] ∧ Box W db [.slice A1 v.rm.length q1, .slice (some ⟨rb, ro, none⟩) v.tr.length q2, .slice A3 v.ar.length q3, .slice (some ⟨tb, 0, none⟩) v.rm.length v.rm.length, .map (some mb)] ∧ ∃ n fm, MapAt Tryd.prog 46 W mb n fm ∧ (fm (sd g ((t : Int) + (mi : Int)))).getD (I 0) = I cm) W.drew := ⟨hbx'.drew, hbm'.drew, hDs.box.drew, N, fm, hm1.drew, hg1⟩
  refine (wpIn_wide (n := 9)).1 ?_
  refine wpIn_region_plan (Plan.ons [0, 1, 2, 3, 4, 5, 6, 7, 8, 9, 10, 11, 12, 13, 14, 15, 16, 17, 18] .fin) [0, 1, 2, 3, 4, 5, 6, 7, 8, 9, 10, 11, 12, 13, 14, 15] (fun W => Box W (w.heap.size + 1) [I f, I g, I mi, I r] ∧ Box W w.heap.size [I t, I k, I c] ∧ Box W db [.slice A1 v.rm.length q1, .slice (some ⟨rb, ro, none⟩) v.tr.length q2, .slice A3 v.ar.length q3, .slice (some ⟨tb, 0, none⟩) v.rm.length v.rm.length, .map (some mb)] ∧ ∃ n fm, MapAt Tryd.prog 46 W mb n fm ∧ (fm (sd g ((t : Int) + (mi : Int)))).getD (I 0) = I cm) [18] rfl (by kernel_rfl) (by kernel_rfl) (fun _ d _ _ _ h => by cases d <;> exact h) hC0 ?_
  (refine ordQ_held (ptr db) rfl rfl rfl rfl (fun W' hC' => ?_) (fun K hK => ?_); (focus (obtain ⟨⟨c0, c1⟩, ⟨c2, c3⟩, c4, cl⟩ := HCC.out _ hC'; go_simp; try exact ⟨rfl, rfl⟩)); go_simp; refine hK _ ?_; clear hK K)
  (refine ordQ_held (ptr db) rfl rfl rfl rfl (fun W' hC' => ?_) (fun K hK => ?_); (focus (obtain ⟨⟨c0, c1⟩, ⟨c2, c3⟩, c4, cl⟩ := HCC.out _ hC'; go_simp; try exact ⟨rfl, rfl⟩)); go_simp; refine hK _ ?_; clear hK K)
  (refine ordQ_held (.pointer (some ⟨db, 4, none⟩)) rfl rfl rfl rfl (fun W' hC' => ?_) (fun K hK => ?_); (focus (obtain ⟨⟨c0, c1⟩, ⟨c2, c3⟩, c4, cl⟩ := HCC.out _ hC'; go_simp; try exact ⟨rfl, rfl⟩)); go_simp; refine hK _ ?_; clear hK K)
  (refine ordQ_held (.map (some mb)) rfl rfl rfl rfl (fun W' hC' => ?_) (fun K hK => ?_); (focus (obtain ⟨⟨c0, c1⟩, ⟨c2, c3⟩, c4, cl⟩ := HCC.out _ hC'; go_simp; try exact ⟨rfl, rfl⟩)); go_simp; refine hK _ ?_; clear hK K)
  (refine ordQ_held (.pointer (some ⟨w.heap.size + 1, 1, none⟩)) rfl rfl rfl rfl (fun W' hC' => ?_) (fun K hK => ?_); (focus (obtain ⟨⟨c0, c1⟩, ⟨c2, c3⟩, c4, cl⟩ := HCC.out _ hC'; go_simp; try exact ⟨rfl, rfl⟩)); go_simp; refine hK _ ?_; clear hK K)
  (refine ordQ_held (I g) rfl rfl rfl rfl (fun W' hC' => ?_) (fun K hK => ?_); (focus (obtain ⟨⟨c0, c1⟩, ⟨c2, c3⟩, c4, cl⟩ := HCC.out _ hC'; go_simp; try exact ⟨rfl, rfl⟩)); go_simp; refine hK _ ?_; clear hK K)
  (refine ordQ_held (.pointer (some ⟨w.heap.size, 0, none⟩)) rfl rfl rfl rfl (fun W' hC' => ?_) (fun K hK => ?_); (focus (obtain ⟨⟨c0, c1⟩, ⟨c2, c3⟩, c4, cl⟩ := HCC.out _ hC'; go_simp; try exact ⟨rfl, rfl⟩)); go_simp; refine hK _ ?_; clear hK K)
  (refine ordQ_held (I t) rfl rfl rfl rfl (fun W' hC' => ?_) (fun K hK => ?_); (focus (obtain ⟨⟨c0, c1⟩, ⟨c2, c3⟩, c4, cl⟩ := HCC.out _ hC'; go_simp; try exact ⟨rfl, rfl⟩)); go_simp; refine hK _ ?_; clear hK K)
  (refine ordQ_held (.pointer (some ⟨w.heap.size + 1, 2, none⟩)) rfl rfl rfl rfl (fun W' hC' => ?_) (fun K hK => ?_); (focus (obtain ⟨⟨c0, c1⟩, ⟨c2, c3⟩, c4, cl⟩ := HCC.out _ hC'; go_simp; try exact ⟨rfl, rfl⟩)); go_simp; refine hK _ ?_; clear hK K)
  (refine ordQ_held (I mi) rfl rfl rfl rfl (fun W' hC' => ?_) (fun K hK => ?_); (focus (obtain ⟨⟨c0, c1⟩, ⟨c2, c3⟩, c4, cl⟩ := HCC.out _ hC'; go_simp; try exact ⟨rfl, rfl⟩)); go_simp; refine hK _ ?_; clear hK K)
  (refine ordQ_held (I ((t : Int) + (mi : Int))) rfl rfl rfl rfl (fun W' hC' => ?_) (fun K hK => ?_); (focus (obtain ⟨⟨c0, c1⟩, ⟨c2, c3⟩, c4, cl⟩ := HCC.out _ hC'; go_simp; try exact ⟨rfl, rfl⟩)); go_simp; refine hK _ ?_; clear hK K)
  (refine ordQ_held (sd g ((t : Int) + (mi : Int))) rfl rfl rfl rfl (fun W' hC' => ?_) (fun K hK => ?_); (focus (obtain ⟨⟨c0, c1⟩, ⟨c2, c3⟩, c4, cl⟩ := HCC.out _ hC'; go_simp; try exact ⟨rfl, rfl⟩)); go_simp; refine hK _ ?_; clear hK K)
  (refine ordQ_held (I cm) rfl rfl rfl rfl (fun W' hC' => ?_) (fun K hK => ?_); (focus (obtain ⟨⟨c0, c1⟩, ⟨c2, c3⟩, c4, cl⟩ := HCC.out _ hC'; go_simp; try exact ⟨rfl, rfl⟩)); go_simp; refine hK _ ?_; clear hK K)
  (refine ordQ_held (.pointer (some ⟨w.heap.size, 2, none⟩)) rfl rfl rfl rfl (fun W' hC' => ?_) (fun K hK => ?_); (focus (obtain ⟨⟨c0, c1⟩, ⟨c2, c3⟩, c4, cl⟩ := HCC.out _ hC'; go_simp; try exact ⟨rfl, rfl⟩)); go_simp; refine hK _ ?_; clear hK K)
  (refine ordQ_held (I c) rfl rfl rfl rfl (fun W' hC' => ?_) (fun K hK => ?_); (focus (obtain ⟨⟨c0, c1⟩, ⟨c2, c3⟩, c4, cl⟩ := HCC.out _ hC'; go_simp; try exact ⟨rfl, rfl⟩)); go_simp; refine hK _ ?_; clear hK K)
  (refine ordQ_held (I (cm + c)) rfl rfl rfl rfl (fun W' hC' => ?_) (fun K hK => ?_); (focus (obtain ⟨⟨c0, c1⟩, ⟨c2, c3⟩, c4, cl⟩ := HCC.out _ hC'; go_simp; try exact ⟨rfl, rfl⟩)); go_simp; refine hK _ ?_; clear hK K)
  refine ordQ_hv rfl rfl rfl (fun K hK => ?_)
  refine opIn_entry_at _ rfl _ _ _ rfl 3 lawS Tryd.underlying66 zero3 mb N fm rfl hm1.drew (sd g ((t : Int) + (mi : Int))) rfl hky (I cm) hg1 ?_
  intro w5 st5 he5 hg5 hz5
  have hgd : W.grownBy w5 (some mb) := ⟨hg5.os, hg5.tape, hg5.output, hg5.size, hg5.block⟩
  refine hK _ _ (fun _ => ⟨hC0.1.grown hg5 (fun e => by have := Option.some.inj e; omega), hC0.2.1.grown hg5 (fun e => by have := Option.some.inj e; omega), hC0.2.2.1.grown hg5 (fun e => by have := Option.some.inj e; omega), _, _, he5.map, by rw [putF_same]; rfl⟩) ?_
  clear hK K
  (refine ordQ_li rfl rfl rfl (fun K hK => ?_); go_simp; refine hK _ ?_; clear hK K)
  refine ordQ_hv rfl rfl rfl (fun K hK => ?_)
  refine opIn_put_at _ rfl _ _ _ _ rfl mb (N + 1) st5 _ (sd g ((t : Int) + (mi : Int))) rfl he5 rfl (I (cm + c)) rfl ?_
  intro w6 hm6 hg6 hz6
  refine hK _ _ (fun h => by cases h) ?_
  clear hK K
  refine ordQ_fin ?_
  have HN : Hid (R (.returned (.tuple #[])) w6) := Lib.hid (by
    have zw := hFs.size
    have z5 := hgd.size
    refine HR0.out h1 h2 _ ((hFs.grown hgd zw (fun r e => Or.inr (Or.inr (Option.some.inj e).symm))).grown hg6 (by omega) (fun r e => Or.inr (Or.inr (Option.some.inj e).symm))) ?_
    exact ⟨(hDs.box.grown hgd (fun e => by have := Option.some.inj e; omega)).grown hg6 (fun e => by have := Option.some.inj e; omega), (hDs.th.grown hgd (fun e => by have := Option.some.inj e; omega)).grown hg6 (fun e => by have := Option.some.inj e; omega), hDs.len, hne, ⟨N + 1, _, hm6, by rw [putF_twice]; exact HP.out⟩, hlo⟩)
  clear hm6 hg6 hz6 he5 hg5 hz5 hC0 HCC hm1 hm2 hDs HP hbx' hbm' hFs hgd hg1
  go_wp2_with (fail)
  go_end0
  exact HN.out
end Go.Proofs.YtomfnldlnoiloaaDoor
