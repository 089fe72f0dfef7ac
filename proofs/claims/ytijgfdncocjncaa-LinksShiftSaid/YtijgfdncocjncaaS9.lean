/- A row of links, cloned. -/
import Derived.Test.YtijgfdncocjncaaS8
namespace Go.Proofs.Ytijgfdncocjncaa
set_option linter.unusedVariables false
set_option linter.unusedSimpArgs false
open Go Go.RowKit

theorem info84 : (Try.prog.info? 84).map (fun i => (i.zero, i.size, i.bytes)) = some (some (.agg #[I 0, I 0]), 2, 16) := by kernel_rfl
def flat2 (cr : List (Int × Int)) : List Value := cr.flatMap fun s => [I s.1, I s.2]
theorem flat2_len : ∀ cr : List (Int × Int), (flat2 cr).length = cr.length * 2
  | [] => rfl
  | s :: cr => by
    have := flat2_len cr
    simp only [flat2, List.flatMap_cons, List.length_append, List.length_cons, List.length_nil] at this ⊢
    omega
theorem flat2_app (a b : List (Int × Int)) : flat2 (a ++ b) = flat2 a ++ flat2 b := by simp [flat2]
theorem flat2_one (cr : List (Int × Int)) : ∀ u ∈ flat2 cr, u.oneCell' = true := fun u hu => by
  obtain ⟨s, _, h⟩ := List.mem_flatMap.1 hu
  simp only [List.mem_cons, List.not_mem_nil, or_false] at h
  rcases h with rfl | rfl <;> rfl
theorem flat2_get : ∀ (cr : List (Int × Int)) (k : Nat) (h : k < cr.length), (flat2 cr)[k * 2]? = some (I cr[k].1) ∧ (flat2 cr)[k * 2 + 1]? = some (I cr[k].2)
  | [], k, h => by simp at h
  | s :: cr, 0, _ => by simp [flat2]
  | s :: cr, k + 1, h => by
    have ih := flat2_get cr k (by simpa using h)
    have e1 : (k + 1) * 2 = k * 2 + 2 := by omega
    rw [e1]
    have e2 : flat2 (s :: cr) = I s.1 :: I s.2 :: flat2 cr := by simp [flat2]
    rw [e2]
    simpa using ih
theorem twos_own {W : World} {base n : Nat} {v : Value} {xs : List (Int × Int)} {e : TypeId} (h : W.ownsRow base e 2 v n (flat2 xs)) (hn : xs.length = n) :
    ∃ A c, v = .slice A n c ∧ Twos W W.heap.size A xs ∧ (∀ b off, A = some ⟨b, off, none⟩ → base ≤ b) := by
  rcases own_formS h with ⟨rfl, h0⟩ | ⟨g, cap, rfl, h1, h2⟩
  · exact ⟨none, 0, by rw [h0], fun h => by omega, fun b off h => by cases h⟩
  · refine ⟨_, _, rfl, fun _ => ⟨g, 0, rfl, h2, fun k hk => ?_⟩, fun b off h => by cases h; exact h1⟩
    obtain ⟨e1, e2⟩ := flat2_get xs k hk
    rw [Nat.zero_add]
    exact ⟨(h.cellAt (k * 2) (by omega)).trans e1, (h.cellAt (k * 2 + 1) (by omega)).trans e2⟩
set_option maxRecDepth 100000 in
set_option maxHeartbeats 2000000 in
theorem clone53 (base : Nat) (v : Value) (q : List (Int × Int)) (w : World) (h : w.ownsRow base 84 2 v q.length (flat2 q)) (hq : q.length ≤ 1000) :
    Calls Try.prog 53 #[v] w fun e w' => ∃ A c, e = .returned (.slice A q.length c) ∧ Twos w' w'.heap.size A q ∧ (∀ b off, A = some ⟨b, off, none⟩ → w.heap.size ≤ b) ∧ Below w.heap.size w w' := by
  obtain ⟨i0, hi, hi1, hi2, hi3⟩ := info_parts info84
  have u74 : Try.prog.underlying 74 = some (.slice 84) := Try.underlying74
  have q74 : ∀ (w : World) (a : Option Addr) (n c n' c' : Nat), (binOp .eql 74 (.slice a n c) (.slice none n' c')).run Try.prog w = .ok (.bool a.isNone) w := fun w a n c n' c' => Lib.run_eql_slice_nil w _ _ a n c n' c' u74
  rcases own_formS h with ⟨rfl, h0⟩ | ⟨g, cap, rfl, h1, h2⟩
  · have HN := Lib.hid h0
    clear h
    go_enter Try.func53, Try.ntmps53
    go_wp2
    go_ret
    exact ⟨none, 0, by rw [HN.out]; rfl, fun h => by have := HN.out; omega, (fun b off h => by cases h), Below.refl _ _⟩
  · have HL : Hid (∀ (W : World), Below w.heap.size w W → 0 < q.length → ∃ ad : Addr, some (⟨g, 0, none⟩ : Addr) = some ad ∧ ∀ j u, (flat2 q)[j]? = some u → W.cell? (ad.add j) = some u) := Lib.hid fun W hW _ => ⟨_, rfl, fun j u hj => by
      rw [Addr.add_lit, Nat.zero_add]
      have hj' := (List.getElem?_eq_some_iff.1 hj).1
      rw [flat2_len] at hj'
      exact (hW.cell (p := ⟨g, j, none⟩) h2).trans ((h.cellAt j hj').trans hj)⟩
    clear h h1
    obtain ⟨n, hnn⟩ : ∃ n, q.length = n := ⟨_, rfl⟩
    have HN := Lib.hid hnn
    rw [hnn] at hq HL ⊢
    clear hnn
    go_enter Try.func53, Try.ntmps53
    go_wp2_with (at_builtin; refine wpList_append_any _ rfl _ _ 74 rfl w.heap.size 84 i0 (.agg #[I 0, I 0]) 2 16 u74 hi hi1 hi2 hi3 rfl (by decide) _ _ _ rfl (World.ownsRow_made w #[] 0 (Nat.le_refl _) (Nat.zero_le _) (by simp)) (some ⟨g, 0, none⟩) n cap (flat2 q) rfl (by rw [flat2_len, HN.out]) (HL.out _ (below1 _ _)) (flat2_one q) (by simp [maxLen]; omega) (by omega) (by simp) ?_)
    intro v' w1 hown hgrow
    have hB : Below w.heap.size w w1 := ((Below.refl _ w).alloc (Nat.le_refl _) _).grown hgrow (by simp) (by intro k hk; simp [Value.ownBlock] at hk; omega)
    have hown' : w1.ownsRow w.heap.size 84 2 v' n (flat2 q) := by simpa using hown
    obtain ⟨B, d, hv, hI, hA⟩ := twos_own hown' HN.out
    subst hv
    have HI := Lib.hid hI
    clear hown hown' hgrow hI
    go_wp2
    go_ret
    exact ⟨B, d, rfl, HI.out, hA, hB⟩
end Go.Proofs.Ytijgfdncocjncaa
