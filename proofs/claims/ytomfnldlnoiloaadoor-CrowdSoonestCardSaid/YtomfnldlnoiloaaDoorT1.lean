/- need; what See does with a panic. -/
import Derived.Test.YtomfnldlnoiloaaDoorV2
import Derived.Recover
import Derived.Defers
namespace Go.Proofs.YtomfnldlnoiloaaDoor
set_option linter.unusedVariables false
set_option linter.unusedSimpArgs false
open Go Go.RowKit Go.Maps

abbrev misV (e : Int) : Value := .iface 61 (.agg #[I e])
theorem need_yes (e : Int) (w : World) : Calls Tryd.prog 34 #[.bool true, I e] w fun x w' => x = .returned (.tuple #[]) ∧ w' = w := by
  go_enter Tryd.func34, Tryd.ntmps34
  go_wp2
  go_end0
  exact ⟨rfl, rfl⟩
theorem need_no (e : Int) (w : World) : Calls Tryd.prog 34 #[.bool false, I e] w fun x w' => x = .panicked [{ v := misV e, recovered := false }] ∧ w' = w := by
  go_enter Tryd.func34, Tryd.ntmps34
  go_wp2
  exact ⟨rfl, rfl, rfl⟩
theorem catch_idle (p q : Addr) (w : World) :
    CallsD Tryd.prog 31 #[.pointer (some p), .pointer (some q)] .returning w fun e u' w' => e = .returned (.tuple #[]) ∧ u' = .returning ∧ w' = w := by
  refine callsD_of_wpS Tryd.func31 rfl fun c₀ cs hu => ?_
  apply wpS_seq
  apply wpS_region
  simp [wpOpsS, go_sem, recoverD, hu, Tryd.ntmps31, Exit.thenS]
  apply wpS_seq
  apply wpS_region
  simp [wpOpsS, go_sem, Exit.thenS]
  refine wpS_cond (t := false) (by simp [Act.eval, Array.replicate]) ?_
  simp only [Bool.false_eq_true, if_false]
  refine wpS_of_wp (wp_skip ?_)
  cases c₀
  simp_all [bodyPostS, results, Tryd.results31]
theorem assert_mis (e : Int) (w : World) : (Instr.typeAssert (misV e) 20 61 true).run Tryd.prog w = .ok (.tuple #[.agg #[I e], .bool true]) w := by kernel_rfl
set_option maxHeartbeats 2000000 in
theorem catch_panicking (p q : Nat) (x y e : Int) (older : List PanicEntry) (w : World) (hc : w.cell? ⟨p, 0, none⟩ = some (I x)) (hz : w.frozen? ⟨p, 0, none⟩ = false) (hc2 : w.cell? ⟨q, 0, none⟩ = some (I y)) (hz2 : w.frozen? ⟨q, 0, none⟩ = false) (hne : p ≠ q) :
    CallsD Tryd.prog 31 #[.pointer (some ⟨p, 0, none⟩), .pointer (some ⟨q, 0, none⟩)] (.panicking ({ v := misV e, recovered := false } :: older)) w fun x u' w' =>
      x = .returned (.tuple #[]) ∧ u' = .panicking ({ v := misV e, recovered := true } :: older) ∧ (Frm w.heap.size (fun b => b = p ∨ b = q) w w' ∧ w'.cell? ⟨p, 0, none⟩ = some (I 0) ∧ w'.cell? ⟨q, 0, none⟩ = some (I e)) := by
  have hp := cell_lt hc
  have hq := cell_lt hc2
  dsimp only at hp hq
  have htA := assert_mis e
  refine callsD_of_wpS Tryd.func31 rfl fun c₀ cs hu => ?_
  apply wpS_seq
  apply wpS_region
  simp [wpOpsS, go_sem, recoverD, hu, Tryd.ntmps31, Exit.thenS]
  apply wpS_seq
  apply wpS_region
  simp [wpOpsS, go_sem, Exit.thenS]
  refine wpS_cond (t := true) (by simp [Act.eval, Array.replicate]) ?_
  simp only [if_true]
  apply wpS_seq
  apply wpS_region
  simp [wpOpsS, go_sem, Exit.thenS, assert_mis]
  apply wpS_seq
  apply wpS_seq
  apply wpS_region
  simp [wpOpsS, go_sem, Exit.thenS]
  refine wpS_cond (t := false) (by simp [Act.eval, Array.replicate]) ?_
  simp only [Bool.false_eq_true, if_false]
  refine wpS_of_wp (wp_skip ?_)
  simp only [Exit.thenS]
  refine wpS_of_wp ?_
  refine (wpIn_wide (n := 9)).1 ?_
  refine wpIn_region_plan (Plan.ons [0, 1, 2, 3] .fin) [0, 1] (fun W => W.cell? ⟨w.heap.size, 0, none⟩ = some (I e)) [3] rfl (by kernel_rfl) (by kernel_rfl) (fun _ d _ _ _ h => by cases d <;> exact h) ?_ ?_
  · exact (Box.new w [I e] 61).drew.at_ 0 _ rfl |>.1
  (refine ordQ_held (.pointer (some ⟨w.heap.size, 0, none⟩)) rfl rfl rfl rfl (fun W' hC' => ?_) (fun K hK => ?_); (focus (obtain c0 := hC'; go_simp; try exact ⟨rfl, rfl⟩)); go_simp; refine hK _ ?_; clear hK K)
  (refine ordQ_held (I e) rfl rfl rfl rfl (fun W' hC' => ?_) (fun K hK => ?_); (focus (obtain c0 := hC'; go_simp; try exact ⟨rfl, rfl⟩)); go_simp; refine hK _ ?_; clear hK K)
  refine ordQ_hv rfl rfl rfl (fun K hK => ?_)
  gi_wp2
  refine hK _ _ (fun _ => ?_) ?_
  · go_simp
  clear hK K
  refine ordQ_hv rfl rfl rfl (fun K hK => ?_)
  gi_wp2
  refine hK _ _ (fun h => by cases h) ?_
  clear hK K
  refine ⟨rfl, _, rfl, .tuple #[], by simp [results, Tryd.results31], rfl, rfl, ?_, ?_, ?_⟩
  · exact (Frm.alloc (Frm.setCell (Frm.setCell (Frm.refl _ _ _) (p := ⟨p, 0, none⟩) (Or.inr (Or.inl rfl)) _) (p := ⟨q, 0, none⟩) (Or.inr (Or.inr rfl)) _) (by simp) _).drew
  · go_simp
  · go_simp
end Go.Proofs.YtomfnldlnoiloaaDoor
