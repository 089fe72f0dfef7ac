/- Ranger, plain: the answers at the example. -/
import Derived.Test.YtfebhofihioaoaaS24
import Derived.Test.YtfebhofihioaoaaS15
namespace Go.Proofs.Ytfebhofihioaoaa
set_option linter.unusedVariables false
set_option linter.unusedSimpArgs false
open Go Go.RowKit

theorem prk0 : prkB x0 = true := prkB_iff.2 x0_ok
theorem needR0 : needR x0 3 = (5, 0) := by
  unfold needR
  rw [prk0, if_pos rfl, if_pos (by decide), show (3 : Int).toNat = 3 from rfl, need0_tab (by decide)]
  rfl
theorem post0 {l : List Int} (h1 : l.length = 3) (h2 : ∀ k (h : k < l.length), 0 ≤ l[k] ∧ l[k] ≤ 12) : postsB x0 l = true := postsB_iff.2 ⟨h1, h2⟩
theorem post0a : postsB x0 [2, 1, 1] = true := post0 rfl (by decide)
theorem post0b : postsB x0 [3, 2, 1] = true := post0 rfl (by decide)
theorem poss0a : possB x0 [100, 10, 0] = true := possB_iff.2 ⟨rfl, by decide, by decide, by decide⟩
theorem poss0b : possB x0 [40, 30, 25] = true := possB_iff.2 ⟨rfl, by decide, by decide, by decide⟩
theorem holds0a : holdsR x0 [2, 1, 1] [100, 10, 0] = (false, 0) := by
  unfold holdsR
  rw [prk0, post0a, poss0a, if_pos rfl, Bool.and_self, if_pos rfl]
  have hf : holdsB x0 [2, 1, 1] [100, 10, 0] = false := bool_false fun hb => by
    have h : ∀ S, S < 2 ^ 3 → wantN 3 (fun s => need1 (x0.ho s) (crF [100, 10, 0] s)) S ≤ forN 3 (frX x0) (crF [2, 1, 1]) S := holdsB_iff.1 hb
    have := h 3 (by decide)
    revert this
    decide
  rw [hf]
theorem hall0b : ∀ S, S < 2 ^ 3 → wantN 3 (fun s => need1 (x0.ho s) (crF [40, 30, 25] s)) S ≤ forN 3 (frX x0) (crF [2, 1, 1]) S := by decide +kernel
theorem holds0b : holdsR x0 [2, 1, 1] [40, 30, 25] = (true, 0) := by
  unfold holdsR
  rw [prk0, post0a, poss0b, if_pos rfl, Bool.and_self, if_pos rfl, holdsB_iff.2 (show HoldsX x0 _ _ from hall0b)]
theorem lack0 (l : List Int) (n : Nat × Int) (h : lackTo (fun S => needs0.getD S 0) (forX x0 (crF l)) 8 = n) : lackTo (needV x0) (forX x0 (crF l)) (2 ^ x0.n) = n := by
  rw [← h]
  exact lackTo_congr 8 fun S hS => ⟨need0_tab hS, rfl⟩
theorem lackR0a : lackR x0 [2, 1, 1] = (3, 2, 0) := by
  unfold lackR
  rw [prk0, post0a, lack0 [2, 1, 1] (3, 2) (by decide +kernel)]
  rfl
theorem lackR0b : lackR x0 [3, 2, 1] = (0, 0, 4) := by
  unfold lackR
  rw [prk0, post0b, lack0 [3, 2, 1] (0, 0) (by decide +kernel)]
  rfl
theorem fewR0 : fewR x0 = ([0, 5, 1], 0) := by
  unfold fewR
  rw [prk0, if_pos rfl]
  cases h : fewV x0 with
  | none => exact absurd fewest0.ok (fewV_none h fewest0.len fewest0.sum)
  | some m =>
    have := (fewV_some h).eq fewest0
    subst this
    rfl
theorem fours0 (w : World) (t : TypeId) : Fours (w.alloc (.cells #[I 0, I 100, I 40, I 2, I 10, I 60, I 30, I 5, I 0, I 50, I 25, I 0] t)) (w.heap.size + 1) (some ⟨w.heap.size, 0, none⟩) x0.sp := fun _ => by
  refine ⟨_, 0, rfl, by omega, fun k hk => ?_⟩
  have hk3 : k < 3 := hk
  obtain rfl | rfl | rfl : k = 0 ∨ k = 1 ∨ k = 2 := by omega
  all_goals (refine ⟨?_, ?_, ?_, ?_⟩ <;> simp [go_sem, x0])
end Go.Proofs.Ytfebhofihioaoaa
