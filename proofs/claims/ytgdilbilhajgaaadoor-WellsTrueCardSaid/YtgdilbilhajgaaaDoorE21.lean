/- plus. -/
import Derived.Test.YtgdilbilhajgaaaDoorRe
namespace Go.Proofs.YtgdilbilhajgaaaDoor
set_option linter.unusedVariables false
set_option linter.unusedSimpArgs false
open Go Go.RowKit Go.Shelf

attribute [local go_sem] Oper.semAt_some

theorem i64_small {n : Int} (h : -1000000 ≤ n ∧ n ≤ 1000000) : IntKind.i64.wrap n = n := IntWalk.i64_in _ (by omega)
theorem wp_cutN {P : Program} {s : Code} {K : Act → World → Prop} {Q' : Exit → Act → World → Prop} {a : Act} {w : World} (R : Act → World → Prop) (first : s.wp P (fun e a' w' => e = .normal ∧ R a' w') a w) (rest : ∀ a' w', R a' w' → K a' w') : s.wp P (Exit.then K Q') a w :=
  wp_mono first fun e a' w' h => by obtain ⟨rfl, h⟩ := h; exact rest _ _ h

set_option maxRecDepth 100000 in
set_option maxHeartbeats 4000000 in
theorem plus48 (f1 f2 : Int) (b1 o1 c1 b2 o2 c2 n1 n2 N : Nat) (L M : List Int) (hL : L.length = n1) (hM : M.length = n2) (h1 : 1 ≤ n1 ∧ n1 ≤ 40000) (h2 : 1 ≤ n2 ∧ n2 ≤ 40000) (hN : N + 1 = n1 + n2) (hf1 : 0 ≤ f1 ∧ f1 ≤ 100000) (hf2 : 0 ≤ f2 ∧ f2 ≤ 100000)
    (hLv : ∀ x ∈ L, 0 ≤ x ∧ x ≤ 100000) (hMv : ∀ x ∈ M, 0 ≤ x ∧ x ≤ 100000) (w : World) (hb : b1 < w.heap.size ∧ b2 < w.heap.size) (hcL : ∀ k (h : k < L.length), w.cell? ⟨b1, o1 + k, none⟩ = some (I L[k])) (hcM : ∀ k (h : k < M.length), w.cell? ⟨b2, o2 + k, none⟩ = some (I M[k])) :
    Calls Tryd.prog 48 #[.agg #[I f1, .slice (some ⟨b1, o1, none⟩) n1 c1], .agg #[I f2, .slice (some ⟨b2, o2, none⟩) n2 c2]] w fun e w' => ∃ S R, e = .returned (.agg #[I (f1 + f2), .slice (some ⟨S, 0, none⟩) N N]) ∧ w.heap.size ≤ S ∧ Box w' S (R.map I) ∧ Below w.heap.size w w' ∧ ConvR L M R := by
  have hNN : ((n1 : Int) + (n2 : Int) - 1) = (N : Int) := by omega
  have hN1 : 1 ≤ N ∧ N ≤ 100000 := by omega
  have HREP : Hid (∀ W (b : Nat), b < W.heap.size → W.cell? ⟨b, 0, none⟩ = some (I neverW) → Calls Tryd.prog 68 #[.slice (some ⟨b, 0, none⟩) 1 1, I ((n1 : Int) + (n2 : Int) - 1)] W fun e w' => ∃ S, W.heap.size ≤ S ∧ e = .returned (.slice (some ⟨S, 0, none⟩) N N) ∧ Below W.heap.size W w' ∧ Rp w' S 3 1 N N [I neverW]) := Lib.hid fun W b hb h0 => by
    rw [hNN]
    exact (repeat68b b 0 1 neverW N W hN1 hb (src1 h0) (mul90 N hN1.2)).mono fun e w' h => ⟨_, Nat.le_refl _, h⟩
  have r1 : -1000000 ≤ f1 + f2 ∧ f1 + f2 ≤ 1000000 := by omega
  have r2 : -1000000 ≤ (n1 : Int) + (n2 : Int) ∧ (n1 : Int) + (n2 : Int) ≤ 1000000 := by omega
  have r3 : -1000000 ≤ (n1 : Int) + (n2 : Int) - 1 ∧ (n1 : Int) + (n2 : Int) - 1 ≤ 1000000 := by omega
  have ha1 : IntKind.i64.wrap (f1 + f2) = f1 + f2 := i64_small r1
  have ha2 : IntKind.i64.wrap ((n1 : Int) + (n2 : Int)) = (n1 : Int) + (n2 : Int) := i64_small r2
  have ha3 : IntKind.i64.wrap ((n1 : Int) + (n2 : Int) - 1) = (n1 : Int) + (n2 : Int) - 1 := i64_small r3
  have HLEN := Lib.hid hNN
  clear hNN
  have HCL := Lib.hid hcL
  have HCM := Lib.hid hcM
  have HLV := Lib.hid hLv
  have HMV := Lib.hid hMv
  clear hcL hcM hLv hMv
  refine calls_marks Tryd.func48 rfl ?_
  simp only [Tryd.ntmps48, List.size_toArray, List.length_cons, List.length_nil, Nat.reduceAdd, Nat.reduceSub, Array.replicate_succ, Array.replicate_zero, List.push_toArray, List.append_toArray, List.nil_append, List.cons_append]
  go_wp2_with (fail)
  have HB0 : Hid (Below w.heap.size w (((w.alloc (Obj.cells #[I f1, Value.slice (some { block := b1, off := o1 }) n1 c1] 89)).alloc (Obj.cells #[I f2, Value.slice (some { block := b2, off := o2 }) n2 c2] 89)).alloc (Obj.cells #[Value.int IntKind.i64 0, Value.slice none 0 0] 89))) := Lib.hid (by (repeat' (first | assumption | exact Below.refl _ _ | refine Below.drew ?_ | refine below_drewN ?_ _ | refine Below.setCell ?_ (by first | omega | (simp; done) | (simp; omega)) _ | refine Below.alloc ?_ (by first | omega | (simp; done) | (simp; omega)) _ | refine Below.trans ?_ (Below.mono (by assumption) (by first | omega | (simp; done) | (simp; omega))))))
  have hz0 : (((w.alloc (Obj.cells #[I f1, Value.slice (some { block := b1, off := o1 }) n1 c1] 89)).alloc (Obj.cells #[I f2, Value.slice (some { block := b2, off := o2 }) n2 c2] 89)).alloc (Obj.cells #[Value.int IntKind.i64 0, Value.slice none 0 0] 89)).heap.size = w.heap.size + 3 := by simp
  have HC0 : Hid ((((w.alloc (Obj.cells #[I f1, Value.slice (some { block := b1, off := o1 }) n1 c1] 89)).alloc (Obj.cells #[I f2, Value.slice (some { block := b2, off := o2 }) n2 c2] 89)).alloc (Obj.cells #[Value.int IntKind.i64 0, Value.slice none 0 0] 89)).cell? ⟨w.heap.size, 0, none⟩ = some (I f1) ∧
    (((w.alloc (Obj.cells #[I f1, Value.slice (some { block := b1, off := o1 }) n1 c1] 89)).alloc (Obj.cells #[I f2, Value.slice (some { block := b2, off := o2 }) n2 c2] 89)).alloc (Obj.cells #[Value.int IntKind.i64 0, Value.slice none 0 0] 89)).cell? ⟨w.heap.size, 1, none⟩ = some (.slice (some ⟨b1, o1, none⟩) n1 c1) ∧
    (((w.alloc (Obj.cells #[I f1, Value.slice (some { block := b1, off := o1 }) n1 c1] 89)).alloc (Obj.cells #[I f2, Value.slice (some { block := b2, off := o2 }) n2 c2] 89)).alloc (Obj.cells #[Value.int IntKind.i64 0, Value.slice none 0 0] 89)).cell? ⟨w.heap.size + 1, 0, none⟩ = some (I f2) ∧
    (((w.alloc (Obj.cells #[I f1, Value.slice (some { block := b1, off := o1 }) n1 c1] 89)).alloc (Obj.cells #[I f2, Value.slice (some { block := b2, off := o2 }) n2 c2] 89)).alloc (Obj.cells #[Value.int IntKind.i64 0, Value.slice none 0 0] 89)).cell? ⟨w.heap.size + 1, 1, none⟩ = some (.slice (some ⟨b2, o2, none⟩) n2 c2) ∧
    Box (((w.alloc (Obj.cells #[I f1, Value.slice (some { block := b1, off := o1 }) n1 c1] 89)).alloc (Obj.cells #[I f2, Value.slice (some { block := b2, off := o2 }) n2 c2] 89)).alloc (Obj.cells #[Value.int IntKind.i64 0, Value.slice none 0 0] 89)) (w.heap.size + 1 + 1) [I 0, .slice none 0 0]) := Lib.hid (by
      refine ⟨by simp [go_sem], by simp [go_sem], by simp [go_sem], by simp [go_sem], ?_⟩
      have := Box.new ((w.alloc (Obj.cells #[I f1, Value.slice (some { block := b1, off := o1 }) n1 c1] 89)).alloc (Obj.cells #[I f2, Value.slice (some { block := b2, off := o2 }) n2 c2] 89)) [I 0, .slice none 0 0] 89
      simpa only [World.size_alloc] using this)
  generalize (((w.alloc (Obj.cells #[I f1, Value.slice (some { block := b1, off := o1 }) n1 c1] 89)).alloc (Obj.cells #[I f2, Value.slice (some { block := b2, off := o2 }) n2 c2] 89)).alloc (Obj.cells #[Value.int IntKind.i64 0, Value.slice none 0 0] 89)) = w0 at *
  have HCE : Hid (∀ W, Below w0.heap.size w0 W → W.cell? ⟨w.heap.size, 0, none⟩ = some (I f1) ∧ W.cell? ⟨w.heap.size, 1, none⟩ = some (.slice (some ⟨b1, o1, none⟩) n1 c1) ∧ W.cell? ⟨w.heap.size + 1, 0, none⟩ = some (I f2) ∧ W.cell? ⟨w.heap.size + 1, 1, none⟩ = some (.slice (some ⟨b2, o2, none⟩) n2 c2)) := Lib.hid fun W hW => by
    obtain ⟨a1, a2, a3, a4, _⟩ := HC0.out
    exact ⟨(hW.cell (p := ⟨_, _, none⟩) (by simp; omega)).trans a1, (hW.cell (p := ⟨_, _, none⟩) (by simp; omega)).trans a2, (hW.cell (p := ⟨_, _, none⟩) (by simp; omega)).trans a3, (hW.cell (p := ⟨_, _, none⟩) (by simp; omega)).trans a4⟩
  have HZ0 := Lib.hid hz0
  clear hz0
  refine wp_cutN (fun a' wx => ∃ (Bs S : Nat) (u11 u12 u13 u14 u15 u16 u17 u18 u19 u20 u21 u22 u23 u24 u25 u26 : Value), a' = { tmps := #[Value.agg #[I f1, Value.slice (some { block := b1, off := o1 }) n1 c1], Value.agg #[I f2, Value.slice (some { block := b2, off := o2 }) n2 c2], .pointer (some ⟨w.heap.size, 0, none⟩), .pointer (some ⟨w.heap.size + 1, 0, none⟩), .pointer (some ⟨w.heap.size + 1 + 1, 0, none⟩), .pointer (some ⟨Bs, 0, none⟩), undef, undef, undef, undef, undef, u11, u12, u13, u14, u15, u16, u17, u18, u19, u20, u21, u22, u23, u24, u25, u26, undef, undef, undef, undef, undef, undef, undef, undef, undef, undef, undef, undef, undef, undef, undef, undef, undef, undef, undef, undef, undef, undef, undef, undef, undef, undef, undef], defers := [] } ∧ w0.heap.size ≤ Bs ∧ w0.heap.size ≤ S ∧ Bs ≠ S ∧ Below w0.heap.size w0 wx ∧ Hid (Box wx Bs [I (f1 + f2), .slice (some ⟨S, 0, none⟩) N N]) ∧ Hid (Box wx S ((List.replicate N neverW).map I))) ?first ?rest
  case first =>
    refine (wpIn_wide (n := 9)).1 ?_
    refine wpIn_region_plan (Plan.ons [0, 1, 2, 3, 4, 6, 7, 8, 9, 10, 11, 12, 13] (.two 5 (.two 14 (Plan.ons [15, 16, 17] .fin) 16 (Plan.ons [14, 15, 17] .fin)) 16 (Plan.ons [5, 14, 15, 17] .fin))) [0, 1, 2, 3, 4, 6, 7, 8, 9, 10, 11, 12, 13, 15]
      (fun W' => Below w0.heap.size w0 W') [17] rfl (by kernel_rfl) (by kernel_rfl) (fun _ _ _ _ _ h => by cases h.1) (Below.refl _ _).drew ?_
    (refine ordQ_held (.pointer (some ⟨w.heap.size, 0, none⟩)) rfl rfl rfl rfl (fun W' hC' => ?_) (fun K hK => ?_); (focus (obtain ⟨e0, e1, e2, e3⟩ := HCE.out _ hC'; go_simp; try exact ⟨rfl, rfl⟩)); go_simp; refine hK _ ?_; clear hK K)
    (refine ordQ_held (I f1) rfl rfl rfl rfl (fun W' hC' => ?_) (fun K hK => ?_); (focus (obtain ⟨e0, e1, e2, e3⟩ := HCE.out _ hC'; go_simp; try exact ⟨rfl, rfl⟩)); go_simp; refine hK _ ?_; clear hK K)
    (refine ordQ_held (.pointer (some ⟨w.heap.size + 1, 0, none⟩)) rfl rfl rfl rfl (fun W' hC' => ?_) (fun K hK => ?_); (focus (obtain ⟨e0, e1, e2, e3⟩ := HCE.out _ hC'; go_simp; try exact ⟨rfl, rfl⟩)); go_simp; refine hK _ ?_; clear hK K)
    (refine ordQ_held (I f2) rfl rfl rfl rfl (fun W' hC' => ?_) (fun K hK => ?_); (focus (obtain ⟨e0, e1, e2, e3⟩ := HCE.out _ hC'; go_simp; try exact ⟨rfl, rfl⟩)); go_simp; refine hK _ ?_; clear hK K)
    (refine ordQ_held (I (f1 + f2)) rfl rfl rfl rfl (fun W' hC' => ?_) (fun K hK => ?_); (focus (obtain ⟨e0, e1, e2, e3⟩ := HCE.out _ hC'; go_simp; try exact ⟨rfl, rfl⟩)); go_simp; refine hK _ ?_; clear hK K)
    (refine ordQ_held (.pointer (some ⟨w.heap.size, 1, none⟩)) rfl rfl rfl rfl (fun W' hC' => ?_) (fun K hK => ?_); (focus (obtain ⟨e0, e1, e2, e3⟩ := HCE.out _ hC'; go_simp; try exact ⟨rfl, rfl⟩)); go_simp; refine hK _ ?_; clear hK K)
    (refine ordQ_held (.slice (some ⟨b1, o1, none⟩) n1 c1) rfl rfl rfl rfl (fun W' hC' => ?_) (fun K hK => ?_); (focus (obtain ⟨e0, e1, e2, e3⟩ := HCE.out _ hC'; go_simp; try exact ⟨rfl, rfl⟩)); go_simp; refine hK _ ?_; clear hK K)
    (refine ordQ_held (I n1) rfl rfl rfl rfl (fun W' hC' => ?_) (fun K hK => ?_); (focus (obtain ⟨e0, e1, e2, e3⟩ := HCE.out _ hC'; go_simp; try exact ⟨rfl, rfl⟩)); go_simp; refine hK _ ?_; clear hK K)
    (refine ordQ_held (.pointer (some ⟨w.heap.size + 1, 1, none⟩)) rfl rfl rfl rfl (fun W' hC' => ?_) (fun K hK => ?_); (focus (obtain ⟨e0, e1, e2, e3⟩ := HCE.out _ hC'; go_simp; try exact ⟨rfl, rfl⟩)); go_simp; refine hK _ ?_; clear hK K)
    (refine ordQ_held (.slice (some ⟨b2, o2, none⟩) n2 c2) rfl rfl rfl rfl (fun W' hC' => ?_) (fun K hK => ?_); (focus (obtain ⟨e0, e1, e2, e3⟩ := HCE.out _ hC'; go_simp; try exact ⟨rfl, rfl⟩)); go_simp; refine hK _ ?_; clear hK K)
    (refine ordQ_held (I n2) rfl rfl rfl rfl (fun W' hC' => ?_) (fun K hK => ?_); (focus (obtain ⟨e0, e1, e2, e3⟩ := HCE.out _ hC'; go_simp; try exact ⟨rfl, rfl⟩)); go_simp; refine hK _ ?_; clear hK K)
    (refine ordQ_held (I ((n1 : Int) + (n2 : Int))) rfl rfl rfl rfl (fun W' hC' => ?_) (fun K hK => ?_); (focus (obtain ⟨e0, e1, e2, e3⟩ := HCE.out _ hC'; go_simp; try exact ⟨rfl, rfl⟩)); go_simp; refine hK _ ?_; clear hK K)
    (refine ordQ_held (I ((n1 : Int) + (n2 : Int) - 1)) rfl rfl rfl rfl (fun W' hC' => ?_) (fun K hK => ?_); (focus (obtain ⟨e0, e1, e2, e3⟩ := HCE.out _ hC'; go_simp; try exact ⟨rfl, rfl⟩)); go_simp; refine hK _ ?_; clear hK K)
    have hb0 : Below w0.heap.size w0 w0.drew := (Below.refl _ _).drew
    refine ordQ_two rfl rfl rfl rfl (fun K hK => ?_) (fun K hK => ?_)
    · gi_wp2
      refine hK _ _ (fun _ => by (repeat' (first | assumption | exact Below.refl _ _ | refine Below.drew ?_ | refine below_drewN ?_ _ | refine Below.setCell ?_ (by first | omega | (simp; done) | (simp; omega)) _ | refine Below.alloc ?_ (by first | omega | (simp; done) | (simp; omega)) _ | refine Below.trans ?_ (Below.mono (by assumption) (by first | omega | (simp; done) | (simp; omega)))))) ?_
      clear hK K
      refine ordQ_two rfl rfl rfl rfl (fun K hK => ?_) (fun K hK => ?_)
      · gi_wp2_with (refine And.intro trivial ?_; gi_at_call 68; refine callsIn_wide.2 ((HREP.out _ _ (by first | (simp; done) | (simp; omega)) (by simp [go_sem, neverW])).mono ?_); rintro e w2 ⟨S, hS, rfl, hB2, hR2⟩)
        have hb2 : Below w0.heap.size w0 w2 := by (repeat' (first | assumption | exact Below.refl _ _ | refine Below.drew ?_ | refine below_drewN ?_ _ | refine Below.setCell ?_ (by first | omega | (simp; done) | (simp; omega)) _ | refine Below.alloc ?_ (by first | omega | (simp; done) | (simp; omega)) _ | refine Below.trans ?_ (Below.mono (by assumption) (by first | omega | (simp; done) | (simp; omega)))))
        have HR2 := Lib.hid hR2
        simp only [World.size_alloc, World.size_drew] at hS
        refine hK _ _ (fun _ => hb2) ?_
        clear hK K hR2
        (refine ordQ_held (.agg #[I (f1 + f2), .slice (some ⟨S, 0, none⟩) N N]) rfl rfl rfl rfl (fun W' hC' => ?_) (fun K hK => ?_); (focus (obtain _ := HCE.out _ hC'; go_simp; try exact ⟨rfl, rfl⟩)); go_simp; refine hK _ ?_; clear hK K)
        refine ordQ_hv rfl rfl rfl (fun K hK => ?_)
        gi_wp2
        refine hK _ _ (fun _ => hb2.alloc hb2.size _) ?_
        clear hK K
        have hsz := (rp_box HR2.out).1
        have hszw := hb2.size
        refine ordQ_hv rfl rfl rfl (fun K hK => ?_)
        gi_wp2
        refine hK _ _ (fun h => by cases h) ?_
        clear hK K
        refine ordQ_fin ?_
        exact ⟨rfl, w2.heap.size, S, _, _, _, _, _, _, _, _, _, _, _, _, _, _, _, _,  rfl, hszw, by omega, by omega, hb2.alloc hszw _, Lib.hid (Box.new _ _ _), Lib.hid ((rp_box HR2.out).alloc _)⟩
      · gi_wp2
        refine hK _ _ (fun _ => by (repeat' (first | assumption | exact Below.refl _ _ | refine Below.drew ?_ | refine below_drewN ?_ _ | refine Below.setCell ?_ (by first | omega | (simp; done) | (simp; omega)) _ | refine Below.alloc ?_ (by first | omega | (simp; done) | (simp; omega)) _ | refine Below.trans ?_ (Below.mono (by assumption) (by first | omega | (simp; done) | (simp; omega)))))) ?_
        clear hK K
        have HB1 : Hid (Box ((w0.alloc (Obj.cells #[Value.int IntKind.i64 1073741824] 3)).alloc (Obj.cells #[Value.int IntKind.i64 0, Value.slice none 0 0] 89)).drew (w0.heap.size + 1) [I 0, .slice none 0 0]) := Lib.hid (by
          have := (Box.new (w0.alloc (Obj.cells #[Value.int IntKind.i64 1073741824] 3)) [I 0, .slice none 0 0] 89).drew
          rwa [World.size_alloc] at this)
        refine ordQ_hv rfl rfl rfl (fun K hK => ?_)
        gi_wp2_with (refine And.intro trivial ?_; gi_at_call 68; refine callsIn_wide.2 ((HREP.out _ _ (by first | (simp; done) | (simp; omega)) (by simp [go_sem, neverW])).mono ?_); rintro e w2 ⟨S, hS, rfl, hB2, hR2⟩)
        have hb2 : Below w0.heap.size w0 w2 := by (repeat' (first | assumption | exact Below.refl _ _ | refine Below.drew ?_ | refine below_drewN ?_ _ | refine Below.setCell ?_ (by first | omega | (simp; done) | (simp; omega)) _ | refine Below.alloc ?_ (by first | omega | (simp; done) | (simp; omega)) _ | refine Below.trans ?_ (Below.mono (by assumption) (by first | omega | (simp; done) | (simp; omega)))))
        have HR2 := Lib.hid hR2
        have HBX := Lib.hid (HB1.out.call hB2)
        simp only [World.size_alloc, World.size_drew] at hS
        refine hK _ _ (fun _ => hb2) ?_
        clear hK K hR2
        (refine ordQ_held (.agg #[I (f1 + f2), .slice (some ⟨S, 0, none⟩) N N]) rfl rfl rfl rfl (fun W' hC' => ?_) (fun K hK => ?_); (focus (obtain _ := HCE.out _ hC'; go_simp; try exact ⟨rfl, rfl⟩)); go_simp; refine hK _ ?_; clear hK K)
        obtain ⟨x0, z0⟩ := HBX.out.at_ 0 _ rfl
        obtain ⟨x1, z1⟩ := HBX.out.at_ 1 _ rfl
        have hsz := (rp_box HR2.out).1
        have hszw := hb2.size
        refine ordQ_hv rfl rfl rfl (fun K hK => ?_)
        gi_wp2
        refine hK _ _ (fun h => by cases h) ?_
        clear hK K
        refine ordQ_fin ?_
        exact ⟨rfl, _, S, _, _, _, _, _, _, _, _, _, _, _, _, _, _, _, _,  rfl, by simp, by omega, by (first | omega | (simp; omega)), (hb2.setCell (by simp) _).setCell (by simp) _, Lib.hid ((HBX.out.set 0 _).set 1 _), Lib.hid (((rp_box HR2.out).far (by simp; omega) _).far (by simp; omega) _)⟩
    · gi_wp2
      refine hK _ _ (fun _ => by (repeat' (first | assumption | exact Below.refl _ _ | refine Below.drew ?_ | refine below_drewN ?_ _ | refine Below.setCell ?_ (by first | omega | (simp; done) | (simp; omega)) _ | refine Below.alloc ?_ (by first | omega | (simp; done) | (simp; omega)) _ | refine Below.trans ?_ (Below.mono (by assumption) (by first | omega | (simp; done) | (simp; omega)))))) ?_
      clear hK K
      refine ordQ_hv rfl rfl rfl (fun K hK => ?_)
      gi_wp2
      refine hK _ _ (fun _ => by (repeat' (first | assumption | exact Below.refl _ _ | refine Below.drew ?_ | refine below_drewN ?_ _ | refine Below.setCell ?_ (by first | omega | (simp; done) | (simp; omega)) _ | refine Below.alloc ?_ (by first | omega | (simp; done) | (simp; omega)) _ | refine Below.trans ?_ (Below.mono (by assumption) (by first | omega | (simp; done) | (simp; omega)))))) ?_
      clear hK K
      have HB1 : Hid (Box ((w0.alloc (Obj.cells #[Value.int IntKind.i64 0, Value.slice none 0 0] 89)).alloc (Obj.cells #[Value.int IntKind.i64 1073741824] 3)).drew w0.heap.size [I 0, .slice none 0 0]) := Lib.hid ((Box.new w0 [I 0, .slice none 0 0] 89).alloc _).drew
      refine ordQ_hv rfl rfl rfl (fun K hK => ?_)
      gi_wp2_with (refine And.intro trivial ?_; gi_at_call 68; refine callsIn_wide.2 ((HREP.out _ _ (by first | (simp; done) | (simp; omega)) (by simp [go_sem, neverW])).mono ?_); rintro e w2 ⟨S, hS, rfl, hB2, hR2⟩)
      have hb2 : Below w0.heap.size w0 w2 := by (repeat' (first | assumption | exact Below.refl _ _ | refine Below.drew ?_ | refine below_drewN ?_ _ | refine Below.setCell ?_ (by first | omega | (simp; done) | (simp; omega)) _ | refine Below.alloc ?_ (by first | omega | (simp; done) | (simp; omega)) _ | refine Below.trans ?_ (Below.mono (by assumption) (by first | omega | (simp; done) | (simp; omega)))))
      have HR2 := Lib.hid hR2
      have HBX := Lib.hid (HB1.out.call hB2)
      simp only [World.size_alloc, World.size_drew] at hS
      refine hK _ _ (fun _ => hb2) ?_
      clear hK K hR2
      (refine ordQ_held (.agg #[I (f1 + f2), .slice (some ⟨S, 0, none⟩) N N]) rfl rfl rfl rfl (fun W' hC' => ?_) (fun K hK => ?_); (focus (obtain _ := HCE.out _ hC'; go_simp; try exact ⟨rfl, rfl⟩)); go_simp; refine hK _ ?_; clear hK K)
      obtain ⟨x0, z0⟩ := HBX.out.at_ 0 _ rfl
      obtain ⟨x1, z1⟩ := HBX.out.at_ 1 _ rfl
      have hsz := (rp_box HR2.out).1
      have hszw := hb2.size
      refine ordQ_hv rfl rfl rfl (fun K hK => ?_)
      gi_wp2
      refine hK _ _ (fun h => by cases h) ?_
      clear hK K
      refine ordQ_fin ?_
      exact ⟨rfl, _, S, _, _, _, _, _, _, _, _, _, _, _, _, _, _, _, _,  rfl, by simp, by omega, by (first | omega | (simp; omega)), (hb2.setCell (by simp) _).setCell (by simp) _, Lib.hid ((HBX.out.set 0 _).set 1 _), Lib.hid (((rp_box HR2.out).far (by simp; omega) _).far (by simp; omega) _)⟩
  case rest =>
    rintro a' wx ⟨Bs, S, u11, u12, u13, u14, u15, u16, u17, u18, u19, u20, u21, u22, u23, u24, u25, u26, rfl, hBs, hS, hne, hB, HX, HS⟩
    have hbW := HB0.out.trans (hB.mono HB0.out.size)
    obtain ⟨e0, e1, e2, e3⟩ := HCE.out _ hB
    go_wp2_with (first
      | (go_at_call 69; refine (callsIn_wide.1 (all69_in Fence.wide 9 trivial rfl _ _ _ rfl)).mono ?_; rintro e w3 ⟨rfl, rfl⟩)
      | fail)
    have HW0 := Lib.hid (hB.alloc hB.size (.cells #[I f1, Value.slice (some { block := b1, off := o1 }) n1 c1] 89))
    have d0 : (wx.alloc (.cells #[I f1, Value.slice (some { block := b1, off := o1 }) n1 c1] 89)).cell? ⟨wx.heap.size, 0, none⟩ = some (I f1) := by simp [go_sem]
    have d1 : (wx.alloc (.cells #[I f1, Value.slice (some { block := b1, off := o1 }) n1 c1] 89)).cell? ⟨wx.heap.size, 1, none⟩ = some (.slice (some ⟨b1, o1, none⟩) n1 c1) := by simp [go_sem]
    have HX0 := Lib.hid (HX.out.alloc (.cells #[I f1, Value.slice (some { block := b1, off := o1 }) n1 c1] 89))
    have HS0 := Lib.hid (HS.out.alloc (.cells #[I f1, Value.slice (some { block := b1, off := o1 }) n1 c1] 89))
    have hszx := HX.out.1
    have hszs := HS.out.1
    have hszw := hB.size
    have hz1 : (wx.alloc (.cells #[I f1, Value.slice (some { block := b1, off := o1 }) n1 c1] 89)).heap.size = wx.heap.size + 1 := by simp
    generalize wx.alloc (.cells #[I f1, Value.slice (some { block := b1, off := o1 }) n1 c1] 89) = W0 at *
    obtain ⟨Lf, hLf⟩ : ∃ Lf : Nat → Int, Lf = fun a => L.getD a 0 := ⟨_, rfl⟩
    obtain ⟨Mf, hMf⟩ : ∃ Mf : Nat → Int, Mf = fun a => M.getD a 0 := ⟨_, rfl⟩
    have HLc : Hid (∀ W, Below w0.heap.size w0 W → ∀ x : Fin n1, W.cell? ⟨b1, o1 + x.1, none⟩ = some (I (Lf x.1))) := Lib.hid fun W hW x => by
      have hx : x.1 < L.length := by have := x.2; omega
      have e : Lf x.1 = L[x.1] := by rw [hLf]; simp [List.getD, hx]
      rw [e]
      exact ((HB0.out.trans (hW.mono HB0.out.size)).cell (p := ⟨b1, _, none⟩) hb.1).trans (HCL.out x.1 hx)
    have HMc : Hid (∀ W, Below w0.heap.size w0 W → ∀ x : Fin n2, W.cell? ⟨b2, o2 + x.1, none⟩ = some (I (Mf x.1))) := Lib.hid fun W hW x => by
      have hx : x.1 < M.length := by have := x.2; omega
      have e : Mf x.1 = M[x.1] := by rw [hMf]; simp [List.getD, hx]
      rw [e]
      exact ((HB0.out.trans (hW.mono HB0.out.size)).cell (p := ⟨b2, _, none⟩) hb.2).trans (HCM.out x.1 hx)
    have HLb : Hid (∀ a, a < n1 → 0 ≤ Lf a ∧ Lf a ≤ 100000) := Lib.hid fun a ha => by
      have hx : a < L.length := by omega
      have e : Lf a = L[a] := by rw [hLf]; simp [List.getD, hx]
      rw [e]
      exact HLV.out _ (List.getElem_mem hx)
    have HMb : Hid (∀ a, a < n2 → 0 ≤ Mf a ∧ Mf a ≤ 100000) := Lib.hid fun a ha => by
      have hx : a < M.length := by omega
      have e : Mf a = M[a] := by rw [hMf]; simp [List.getD, hx]
      rw [e]
      exact HMV.out _ (List.getElem_mem hx)
    have hzz := HZ0.out
    have hbz : b1 < w0.heap.size ∧ b2 < w0.heap.size := by omega
    have HLf := Lib.hid hLf
    have HMf := Lib.hid hMf
    clear hLf hMf e0 e1 e2 e3 HX HS
    refine (wpIn_wide (n := 9)).1 ?_
    refine wpIn_rangeFunc_ownH (F := Fence.wide) (n := 9) rfl (by decide) (gf := 91) (lb := #[.pointer (some ⟨wx.heap.size, 0, none⟩)]) rfl trivial (enters_of Tryd.func91 (by kernel_rfl) rfl)
      (all_stops Fence.wide 8 trivial rfl (by decide) wx.heap.size W0.heap.size S b1 o1 n1 c1 f1 (fun x : Fin n1 => Lf x.1) hf1 (by omega) W0 ⟨by omega, by omega⟩ ⟨by omega, by omega⟩ ⟨by omega, by omega⟩ d0 d1 (fun x => HLc.out _ HW0.out x)) frmK_t (frmK_b (Nat.le_refl _)) (Below.refl _ _) (fun _ => rfl)
      (fun pre W => (∃ R, CvI n1 n2 Lf Mf (fun a _ => ∃ x ∈ pre, x.1 = a) R ∧ Box W S (R.map I) ∧ Box W Bs [I (f1 + f2), .slice (some ⟨S, 0, none⟩) N N]) ∧ Below w0.heap.size w0 W ∧ W0.heap.size ≤ W.heap.size)
      (fun _ _ _ => False)
      (fun pre A B row hs hg hr => by
        obtain ⟨⟨R, k1, k2, k3⟩, k4, k5⟩ := hs
        exact ⟨⟨R, k1, k2.grown hg (fun e => by have := (hr _ e).1; omega), k3.grown hg (fun e => by have := (hr _ e).1; omega)⟩, k4.grown hg (by omega) (fun k e => by have := (hr _ e).1; omega), Nat.le_trans k5 hg.size⟩)
      (fun _ _ _ _ _ hs _ _ => hs)
      ⟨⟨List.replicate N neverW, (CvI.start Lf Mf hN).iff (fun _ _ _ _ h => by obtain ⟨_, h, _⟩ := h; cases h), HS0.out, HX0.out⟩, HW0.out, Nat.le_refl _⟩
      (fun x a' W => ∃ Ba Bn : Nat, W0.heap.size ≤ Ba ∧ W0.heap.size ≤ Bn ∧ Boxed W Ba 3 (I (f1 + (x.1 : Int))) ∧ Boxed W Bn 3 (I (Lf x.1)) ∧ a' = { tmps := #[Value.agg #[I f1, Value.slice (some { block := b1, off := o1 }) n1 c1], Value.agg #[I f2, Value.slice (some { block := b2, off := o2 }) n2 c2], .pointer (some ⟨w.heap.size, 0, none⟩), .pointer (some ⟨w.heap.size + 1, 0, none⟩), .pointer (some ⟨w.heap.size + 1 + 1, 0, none⟩), .pointer (some ⟨Bs, 0, none⟩), .pointer (some ⟨Ba, 0, none⟩), .pointer (some ⟨Bn, 0, none⟩), undef, undef, undef, u11, u12, u13, u14, u15, u16, u17, u18, u19, u20, u21, u22, u23, u24, u25, u26, Value.agg #[I f1, Value.slice (some { block := b1, off := o1 }) n1 c1], Value.func (Fn.func 91) #[] #[Value.pointer (some { block := wx.heap.size, off := 0 })], I (f1 + (x.1 : Int)), I (Lf x.1), undef, undef, undef, undef, undef, undef, undef, undef, undef, undef, undef, undef, undef, undef, undef, undef, undef, undef, undef, undef, undef, undef, undef], defers := [] })
      (fun x a' _ X Y row hs hg hr => by
        obtain ⟨Ba, Bn, h1, h2, h3, h4, h5⟩ := hs
        exact ⟨Ba, Bn, h1, h2, boxed_own Ba 3 (fun (_ : Unit) => _) () X Y row h3 hg (fun r e => (hr r e).2), boxed_own Bn 3 (fun (_ : Unit) => _) () X Y row h4 hg (fun r e => (hr r e).2), h5⟩)
      ?assign ?body ?done ?stop
    case stop =>
      rintro D c pre W _ _ h _
      exact h.elim
    case assign =>
      rintro l pre x W K ⟨⟨R, k1, k2, k3⟩, k4, k5⟩ hK
      gi_wp2
      exact hK _ _ (((KeepsOthers.alloc _ _).trans (KeepsOthers.alloc _ _)).from _) (((Frm.refl _ _ W).alloc k5 _).alloc (by simp; omega) _) ⟨⟨R, k1, (k2.alloc _).alloc _, (k3.alloc _).alloc _⟩, (k4.alloc k4.size _).alloc (by have := k4.size; simp; omega) _, by simp; omega⟩
        ⟨W.heap.size, W.heap.size + 1, k5, by omega, (Boxed.new W 3 _).alloc _, by simpa only [World.size_alloc] using Boxed.new (W.alloc (.cells #[I (f1 + (x.1 : Int))] 3)) 3 (I (Lf x.1)), rfl⟩
    case done =>
      rintro D xs W hD hall ⟨⟨R, k1, k2, k3⟩, k4, k5⟩ hK
      have hRB := HC0.out.2.2.2.2.below k4 (by omega)
      obtain ⟨x0, z0⟩ := hRB.at_ 0 _ rfl
      obtain ⟨x1, z1⟩ := hRB.at_ 1 _ rfl
      obtain ⟨y0, _⟩ := k3.at_ 0 _ rfl
      obtain ⟨y1, _⟩ := k3.at_ 1 _ rfl
      have hzz := k4.size
      have hRb : Below w.heap.size w W := HB0.out.trans (k4.mono HB0.out.size)
      have HCV := Lib.hid k1
      have HK2 := Lib.hid k2
      go_wp2
      have hK1 : ((W.setCell ⟨w.heap.size + 1 + 1, 0, none⟩ (Value.int IntKind.i64 (f1 + f2))).setCell ⟨w.heap.size + 1 + 1, 1, none⟩ (Value.slice (some ⟨S, 0, none⟩) N N)).heap[D]? = some (.deferred (some [])) :=
        ((KeepsOthers.setCell _ _ _).trans (KeepsOthers.setCell _ _ _)).same D _ hK rfl
      refine ⟨by simp, .inl ⟨_, _, rfl, run_takeDeferred hK1, ?_⟩⟩
      have hgr := grownBy_putObj' ((W.setCell ⟨w.heap.size + 1 + 1, 0, none⟩ (Value.int IntKind.i64 (f1 + f2))).setCell ⟨w.heap.size + 1 + 1, 1, none⟩ (Value.slice (some ⟨S, 0, none⟩) N N)) D (.deferred none)
      have hBF := ((hRB.set 0 (I (f1 + f2))).set 1 (.slice (some ⟨S, 0, none⟩) N N)).grown hgr (fun e => by injection e with e; omega)
      have hBS := ((HK2.out.far (p := ⟨w.heap.size + 1 + 1, 0, none⟩) (by simp; omega) (I (f1 + f2))).far (p := ⟨w.heap.size + 1 + 1, 1, none⟩) (by simp; omega) (.slice (some ⟨S, 0, none⟩) N N)).grown hgr (fun e => by
        injection e with e
        have hd := (Array.getElem?_eq_some_iff.1 hK).1
        have h2 := (HK2.out.at_ 0 (I (R.getD 0 0)) (by have := HCV.out.1; cases R with | nil => simp at this; omega | cons a r => rfl)).1
        rw [← e] at h2
        simp [World.cell?, hK] at h2)
      have hBB := ((hRb.setCell (p := ⟨w.heap.size + 1 + 1, 0, none⟩) (by simp; omega) (I (f1 + f2))).setCell (p := ⟨w.heap.size + 1 + 1, 1, none⟩) (by simp; omega) (.slice (some ⟨S, 0, none⟩) N N)).grown hgr (by simp; have := hRb.size; omega) (fun k e => by injection e with e; omega)
      clear hK1 hgr
      generalize (((W.setCell ⟨w.heap.size + 1 + 1, 0, none⟩ (Value.int IntKind.i64 (f1 + f2))).setCell ⟨w.heap.size + 1 + 1, 1, none⟩ (Value.slice (some ⟨S, 0, none⟩) N N)).putObj D (.deferred none)) = WF at *
      obtain ⟨q0, _⟩ := hBF.at_ 0 (I (f1 + f2)) rfl
      obtain ⟨q1, _⟩ := hBF.at_ 1 (.slice (some ⟨S, 0, none⟩) N N) rfl
      have hcv : CvI n1 n2 Lf Mf (fun _ _ => True) R := HCV.out.iff (fun a b ha hb _ => ⟨⟨a, ha⟩, hall _, rfl⟩)
      rw [HLf.out, HMf.out, ← hL, ← hM] at hcv
      exact ⟨.agg #[I (f1 + f2), .slice (some ⟨S, 0, none⟩) N N], by simp [results, Tryd.results48, go_sem, q0, q1], S, R, rfl, by omega, hBS, hBB,
        hcv.done (fun _ _ _ _ => trivial) (by omega) (by omega) (fun x hx => (HLV.out x hx).2) (fun x hx => (HMV.out x hx).2)⟩
    case body =>
      rintro l pre x a' W hl ⟨r, hr⟩ ⟨⟨R, k1, k2, k3⟩, k4, k5⟩ ⟨Ba, Bn, hBa, hBn, bA, bN, rfl⟩ hlt
      obtain ⟨e0, e1, e2, e3⟩ := HCE.out _ k4
      have h1' : 1 ≤ 9 - 1 - 1 := by omega
      gi_wp2_with (refine ⟨trivial, ?_⟩; gi_at_call 69; refine (CallsIn.inRound l (all69_in Fence.wide _ trivial rfl _ _ _ rfl)).mono ?_; rintro e w' ⟨rfl, rfl⟩)
      have g0 : (W.alloc (.cells #[I f2, Value.slice (some { block := b2, off := o2 }) n2 c2] 89)).cell? ⟨W.heap.size, 0, none⟩ = some (I f2) := by simp [go_sem]
      have g1 : (W.alloc (.cells #[I f2, Value.slice (some { block := b2, off := o2 }) n2 c2] 89)).cell? ⟨W.heap.size, 1, none⟩ = some (.slice (some ⟨b2, o2, none⟩) n2 c2) := by simp [go_sem]
      have HB1 := Lib.hid (k4.alloc k4.size (.cells #[I f2, Value.slice (some { block := b2, off := o2 }) n2 c2] 89))
      have HK2 := Lib.hid (k2.alloc (.cells #[I f2, Value.slice (some { block := b2, off := o2 }) n2 c2] 89))
      have HK3 := Lib.hid (k3.alloc (.cells #[I f2, Value.slice (some { block := b2, off := o2 }) n2 c2] 89))
      have HBA := Lib.hid (bA.alloc (.cells #[I f2, Value.slice (some { block := b2, off := o2 }) n2 c2] 89))
      have HBN := Lib.hid (bN.alloc (.cells #[I f2, Value.slice (some { block := b2, off := o2 }) n2 c2] 89))
      have HKF : Hid (KeepsFrom W0.heap.size W (W.alloc (.cells #[I f2, Value.slice (some { block := b2, off := o2 }) n2 c2] 89))) := Lib.hid ((KeepsOthers.alloc _ _).from _)
      have HFR : Hid (Frm W0.heap.size (· = S) W (W.alloc (.cells #[I f2, Value.slice (some { block := b2, off := o2 }) n2 c2] 89))) := Lib.hid ((Frm.refl _ _ W).alloc k5 _)
      have hr' : (W.alloc (.cells #[I f2, Value.slice (some { block := b2, off := o2 }) n2 c2] 89)).heap[l]? = some (.loop r) := (Below.heap_alloc W _ l (Array.getElem?_eq_some_iff.1 hr).1).trans hr
      have hzW : (W.alloc (.cells #[I f2, Value.slice (some { block := b2, off := o2 }) n2 c2] 89)).heap.size = W.heap.size + 1 := by simp
      have hlA := bA.lt
      have hlN := bN.lt
      generalize W.alloc (.cells #[I f2, Value.slice (some { block := b2, off := o2 }) n2 c2] 89) = W1 at *
      refine wpIn_rangeFunc_ownN (l₀ := l) (r₀ := r) rfl hr' h1' (gf := 91) (lb := #[.pointer (some ⟨W.heap.size, 0, none⟩)]) rfl trivial (enters_of Tryd.func91 (by kernel_rfl) rfl)
        ((all_stops Fence.wide 6 trivial rfl (by decide) W.heap.size W1.heap.size S b2 o2 n2 c2 f2 (fun y : Fin n2 => Mf y.1) hf2 (by omega) W1 ⟨by omega, by omega⟩ ⟨by omega, by omega⟩ ⟨by omega, by omega⟩ g0 g1 (fun y => HMc.out _ HB1.out y)).inRound l) frmK_t (frmK_b (Nat.le_refl _)) (Below.refl _ _) (fun _ => rfl)
        (fun pre' W' => (∃ R, CvI n1 n2 Lf Mf (fun a b => (∃ z ∈ pre, z.1 = a) ∨ (a = x.1 ∧ ∃ z ∈ pre', z.1 = b)) R ∧ Box W' S (R.map I) ∧ Box W' Bs [I (f1 + f2), .slice (some ⟨S, 0, none⟩) N N]) ∧ (Below w0.heap.size w0 W' ∧ W1.heap.size ≤ W'.heap.size) ∧ (Boxed W' Ba 3 (I (f1 + (x.1 : Int))) ∧ Boxed W' Bn 3 (I (Lf x.1))) ∧ KeepsFrom W0.heap.size W W' ∧ Frm W0.heap.size (· = S) W W')
        (fun _ _ _ => False)
        (fun pre' A B row hs hg hr => by
          obtain ⟨⟨R, k1, k2, k3⟩, ⟨k4, k5'⟩, ⟨k6, k7⟩, k8, k9⟩ := hs
          exact ⟨⟨R, k1, k2.grown hg (fun e => by have := (hr _ e).1; omega), k3.grown hg (fun e => by have := (hr _ e).1; omega)⟩, ⟨k4.grown hg (by omega) (fun k e => by have := (hr _ e).1; omega), Nat.le_trans k5' hg.size⟩,
            ⟨k6.kept hg (fun e => by have := (hr _ e.symm).1; omega), k7.kept hg (fun e => by have := (hr _ e.symm).1; omega)⟩,
            ownFrom_keepsFrom (B' := W1.heap.size) (by omega) () A B row k8 hg hr, k9.grown hg (by omega) (fun k e => .inl (by have := (hr _ e).1; omega))⟩)
        (fun _ _ _ _ _ hs _ _ => hs)
        ⟨⟨R, k1.iff (fun _ _ _ _ h => by rcases h with h | ⟨_, _, h, _⟩; exact h; cases h), HK2.out, HK3.out⟩, ⟨HB1.out, Nat.le_refl _⟩, ⟨HBA.out, HBN.out⟩, HKF.out, HFR.out⟩
        (fun y a'' _ => a'' = { tmps := #[Value.agg #[I f1, Value.slice (some { block := b1, off := o1 }) n1 c1], Value.agg #[I f2, Value.slice (some { block := b2, off := o2 }) n2 c2], .pointer (some ⟨w.heap.size, 0, none⟩), .pointer (some ⟨w.heap.size + 1, 0, none⟩), .pointer (some ⟨w.heap.size + 1 + 1, 0, none⟩), .pointer (some ⟨Bs, 0, none⟩), .pointer (some ⟨Ba, 0, none⟩), .pointer (some ⟨Bn, 0, none⟩), I (f2 + (y.1 : Int)), I (Mf y.1), undef, u11, u12, u13, u14, u15, u16, u17, u18, u19, u20, u21, u22, u23, u24, u25, u26, Value.agg #[I f1, Value.slice (some { block := b1, off := o1 }) n1 c1], Value.func (Fn.func 91) #[] #[Value.pointer (some { block := wx.heap.size, off := 0 })], I (f1 + (x.1 : Int)), I (Lf x.1), Value.agg #[I f2, Value.slice (some { block := b2, off := o2 }) n2 c2], Value.func (Fn.func 91) #[] #[Value.pointer (some { block := W.heap.size, off := 0 })], I (f2 + (y.1 : Int)), I (Mf y.1), undef, undef, undef, undef, undef, undef, undef, undef, undef, undef, undef, undef, undef, undef, undef, undef, undef, undef, undef], defers := [] })
        (fun _ _ _ _ _ _ hs _ _ => hs)
        ?assign2 ?body2 ?done2 ?stop2
      case stop2 =>
        rintro c pre' W' _ h
        exact h.elim
      case assign2 =>
        rintro l2 pre' y W' K hi hK
        gi_wp2
        exact hK _ _ (KeepsFrom.refl _ _) (Frm.refl _ _ _) hi rfl
      case done2 =>
        rintro ys W' hall ⟨⟨R, k1, k2, k3⟩, ⟨k4, k5'⟩, ⟨k6, k7⟩, k8, k9⟩
        gi_wp2
        exact ⟨k8, k9, ⟨R, k1.iff (fun a b ha hb h => by
          obtain ⟨z, hz, e⟩ := h
          rcases List.mem_append.1 hz with hz | hz
          · exact .inl ⟨z, hz, e⟩
          · rw [List.mem_singleton] at hz
            subst hz
            exact .inr ⟨e.symm, ⟨b, hb⟩, hall _, rfl⟩), k2, k3⟩, k4, by omega⟩
      case body2 =>
        rintro l2 pre' y a'' W' _ _ ⟨⟨R, k1, k2, k3⟩, ⟨k4, k5'⟩, ⟨k6, k7⟩, k8, k9⟩ rfl _
        have cA := k6.cell
        have cN := k7.cell
        obtain ⟨y0, _⟩ := k3.at_ 0 _ rfl
        obtain ⟨y1, _⟩ := k3.at_ 1 _ rfl
        have hxl := x.2
        have hyl := y.2
        have hRl := k1.1
        have hi : x.1 + y.1 < R.length := by omega
        obtain ⟨s0, s1⟩ := k2.at_ (x.1 + y.1) (I (R.getD (x.1 + y.1) 0)) (by simp [List.getD, hi])
        have HST := Lib.hid (k1.step (fun a ha => (HLb.out a ha).1) (fun b hb => (HMb.out b hb).1) hxl hyl)
        have hv1 := HLb.out _ hxl
        have hv2 := HMb.out _ hyl
        have hv3 := k1.2.2 _ hi
        have HV3 := Lib.hid hv3
        obtain ⟨hv3, hv4, _⟩ := hv3
        generalize R.getD (x.1 + y.1) 0 = rv at *
        generalize Lf x.1 = lv at *
        generalize Mf y.1 = mv at *
        have HK2 := Lib.hid k2
        clear k2 HV3
        gi_wp2
        rw [show (f1 + (x.1 : Int) + (f2 + (y.1 : Int)) - (f1 + f2)).toNat = x.1 + y.1 by omega]
        have hmin : (if rv ≤ lv + mv then rv else lv + mv) = min rv (lv + mv) := rfl
        have hmw : wrap64 (lv + mv) = lv + mv := wrap64_small (by omega)
        have hmw2 : IntKind.i64.wrap (lv + mv) = lv + mv := i64_small (by omega)
        show Code.wpIn (Fence.wide.inRound l2) _ _ _ _ _ _
        refine wpIn_region_planR (F := Fence.wide) (Plan.ons [0, 1, 2, 3, 4, 5, 6, 7, 8, 9] .fin) [] (fun _ => True) [] rfl (by kernel_rfl) (by kernel_rfl) (by kernel_rfl) (fun _ _ _ _ _ h => h) trivial ?_
        iterate 9 (refine ordQ_li rfl rfl rfl (fun K hK => ?_); go_simp; refine hK _ ?_; clear hK K)
        refine ordQ_hv rfl rfl rfl (fun K hK => ?_)
        gi_wp2
        refine hK _ _ (fun _ => trivial) ?_
        clear hK K
        refine ordQ_fin ?_
        have hSA : Ba ≠ S := by omega
        have hSN : Bn ≠ S := by omega
        refine ⟨((KeepsOthers.setCell _ _ _).trans (KeepsOthers.drew _)).from _, ((Frm.refl W1.heap.size (· = S) W').setCell (p := ⟨S, x.1 + y.1, none⟩) (.inr rfl) _).drew, ⟨_, HST.out.iff ?_, ?_, (k3.far (p := ⟨S, x.1 + y.1, none⟩) (Ne.symm hne) _).drew⟩, ⟨(k4.setCell (p := ⟨S, x.1 + y.1, none⟩) hS _).drew, by simpa using k5'⟩,
          ⟨(Below.heap_setCell W' ⟨S, x.1 + y.1, none⟩ (I (min rv (lv + mv))) Ba hSA).trans k6, (Below.heap_setCell W' ⟨S, x.1 + y.1, none⟩ (I (min rv (lv + mv))) Bn hSN).trans k7⟩, k8.trans (((KeepsOthers.setCell _ _ _).trans (KeepsOthers.drew _)).from _), (k9.setCell (p := ⟨S, x.1 + y.1, none⟩) (.inr rfl) _).drew⟩
        · rintro a b ha hb (h | ⟨h, z, hz, e⟩)
          · exact .inl (.inl h)
          · rcases List.mem_append.1 hz with hz | hz
            · exact .inl (.inr ⟨h, z, hz, e⟩)
            · rw [List.mem_singleton] at hz
              subst hz
              exact .inr ⟨h, e.symm⟩
        · have := (HK2.out.set (x.1 + y.1) (I (min rv (lv + mv)))).drew
          rwa [← List.map_set] at this
end Go.Proofs.YtgdilbilhajgaaaDoor
