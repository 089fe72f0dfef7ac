/- A region that draws its order, by a law of what has been done. -/
import Derived.Test.YtilmlgngnbokfaaPg
namespace Go.Proofs.Ytilmlgngnbokfaa
set_option linter.unusedVariables false
set_option linter.unusedSimpArgs false
open Go

section
variable {F : Fence} {n : Nat} {P : Program} {ops : Array Oper} {Q : Exit → Act → World → Prop}

/-- **A region that draws its order, an operation at a time, by a law of what has been done (l), what that handed back (val) and the world.** -/
theorem wpIn_region_joint {id : Nat} {a : Act} {w : World} (ds : List (Option Tmp)) (dv : Nat → Value) (J : (Nat → Bool) → (Nat → Value) → World → Prop) (hro : F.round = none) (hm : P.follows .mixedOrders = true)
    (hchk : chkH ops = true) (hds : ops.toList.map (·.dst) = ds) (hQ : ∀ c (d : Option Tmp) (v : Value) a w, Q (.panic c) (a.put d v) w → Q (.panic c) a w)
    (h0 : J (fun _ => false) (fun _ => undef) w.drew)
    (hop : ∀ i o, ops[i]? = some o → ∀ (l : Nat → Bool) (val val' : Nat → Value) W, l i = false → (∀ j, j ≠ i → (j < ops.size ∧ l j = true ∧ val' j = val j) ∨ val' j = dv j) → (∀ e ∈ o.after, Region.binds .any e = true → l e.on = true ∧ val' e.on = val e.on) → J l val W →
      ∀ K : Act → World → Prop, (∀ v w', J (fun j => j == i || l j) (fun j => if j = i then v else val j) w' → K ((putD val' ds 0 a).put o.dst v) w') → Region.wanted o (yielded ops (putD val' ds 0 a).tmps) = true ∧ o.wpIn F n P (putD val' ds 0 a) W K Q)
    (hfin : ∀ (l : Nat → Bool) (val : Nat → Value) W, (∀ i, i < ops.size → l i = true) → J l val W → Q .normal (putD val ds 0 a) W) : (Code.region id ops true).wpIn F n P Q a w := by
  obtain ⟨c1, c2, c4⟩ := chkH_spec hchk
  have hdist : distinctD ops := by
    intro i j d hne hi hj
    unfold dstAt at hi hj
    cases hoi : ops[i]? with
    | none => rw [hoi] at hi; cases hi
    | some oi =>
      cases hoj : ops[j]? with
      | none => rw [hoj] at hj; cases hj
      | some oj =>
        rw [hoi] at hi
        rw [hoj] at hj
        simp only [Option.bind_some] at hi hj
        have key : ∀ i j (oi oj : Oper), i ≠ j → ops[i]? = some oi → ops[j]? = some oj → oi.dst = some d → oj.dst = some d → (∃ e ∈ oj.after, Region.binds .any e = true ∧ e.on = i) := fun i j oi oj hne hoi hoj hi hj => by
          rcases c4 i j oi oj hne hoi hoj with h | h
          · exact h
          · exact absurd hj ((aside_spec h).2 d hi)
        obtain ⟨e, he, hb, rfl⟩ := key i j oi oj hne hoi hoj hi hj
        obtain ⟨e', he', hb', rfl⟩ := key _ _ oj oi (Ne.symm hne) hoj hoi hj hi
        have lt : ∀ i (o : Oper) e, ops[i]? = some o → e ∈ o.after → Region.binds .any e = true → e.on < i := fun i o e ho he hb => by
          have h1 := List.all_eq_true.1 c1 i (List.mem_range.2 (Array.getElem?_eq_some_iff.1 ho).1)
          simp only [ho] at h1
          have h2 := Array.all_eq_true'.1 h1 e he
          rw [hb] at h2
          simpa using h2
        have := lt _ _ e hoj he hb
        have := lt _ _ e' hoi he' hb'
        omega
  have hcan : ∀ val, putD val ds 0 a = putL ops val (List.range ops.size) a := fun val => by
    rw [List.range_eq_range', ← putD_eq, ← List.range_eq_range', ← hds]
    congr 1
    apply List.ext_getElem?
    intro i
    rw [List.getElem?_map, List.getElem?_map, Array.getElem?_toList]
    by_cases hlt : i < ops.size
    · rw [List.getElem?_range hlt]; simp [dstAt, hlt]
    · rw [Array.getElem?_eq_none (by omega), List.getElem?_eq_none (by simp; omega)]; rfl
  refine wpIn_region_inv (fun l a' W => ∃ val, a' = putL ops val ((List.range ops.size).filter l) a ∧ J l val W) hm c1 ⟨fun _ => undef, ?_, h0⟩ ?_ ?_
  · rw [List.filter_eq_nil_iff.2 (fun _ _ => by simp)]; rfl
  · rintro l _ W i o hi hli hdep ⟨val, rfl, hV⟩
    have hlt : i < ops.size := (Array.getElem?_eq_some_iff.1 hi).1
    have lt : ∀ e ∈ o.after, e.on < ops.size ∨ ops[e.on]? = none := fun e _ => by
      rcases Nat.lt_or_ge e.on ops.size with h | h
      · exact .inl h
      · exact .inr (Array.getElem?_eq_none h)
    have hown : ∃ x : Value, (putL ops val ((List.range ops.size).filter l) a).put o.dst x = putL ops val ((List.range ops.size).filter l) a := by
      generalize putL ops val ((List.range ops.size).filter l) a = b
      cases o.dst with
      | none => exact ⟨undef, rfl⟩
      | some d =>
        by_cases hd : d < b.tmps.size
        · refine ⟨b.tmps[d], ?_⟩
          simp [Act.put, Array.setIfInBounds, hd]
        · exact ⟨undef, by simp [Act.put, Array.setIfInBounds, hd]⟩
    obtain ⟨x, hx⟩ := hown
    have hdi : dstAt ops i = o.dst := by simp [dstAt, hi]
    have hval : ∀ k ∈ (List.range ops.size).filter l, val k = (fun j => if j = i then x else if l j && decide (j < ops.size) then val j else dv j) k := fun k hk => by
      have : k ≠ i := fun h => by
        have := (List.mem_filter.1 hk).2
        rw [h, hli] at this
        cases this
      have h2 := List.mem_filter.1 hk
      have h3 := List.mem_range.1 h2.1
      simp [this, h2.2, h3]
    have hl2 : ((List.range ops.size).filter fun j => !l j) = (List.range ops.size).filter fun j => j == i || !(j == i || l j) := List.filter_congr fun j _ => by
      by_cases e : j = i
      · subst e; simp [hli]
      · have e' : (j == i) = false := by simpa using e
        simp only [e', Bool.false_or]
    have hsplit : putD (fun j => if j = i then x else if l j && decide (j < ops.size) then val j else dv j) ds 0 a = putL ops (fun j => if j = i then x else if l j && decide (j < ops.size) then val j else dv j) ((List.range ops.size).filter fun j => !(j == i || l j)) (putL ops val ((List.range ops.size).filter l) a) := by
      rw [hcan]
      rw [putL_perm hdist _ (List.filter_append_perm l _).symm a, putL_append, ← putL_congr _ _ hval, hl2]
      rw [putL_perm hdist _ (filter_add (l := fun j => !(j == i || l j)) (by simp) _ List.nodup_range (List.mem_range.2 hlt))]
      simp only [putL, if_true, hdi, hx]
    have h1 := hop i o hi l val (fun j => if j = i then x else if l j && decide (j < ops.size) then val j else dv j) W hli (fun j hj => by
      by_cases hlj : l j = true ∧ j < ops.size
      · exact .inl ⟨hlj.2, hlj.1, by simp [hj, hlj.1, hlj.2]⟩
      · right
        simp only [hj, if_false]
        rw [if_neg (by simpa using hlj)]) (fun e he hb => by
      have h1 := List.all_eq_true.1 c1 i (List.mem_range.2 hlt)
      simp only [hi] at h1
      have h2 := Array.all_eq_true'.1 h1 e he
      rw [hb] at h2
      have hlt' : e.on < i := by simpa using h2
      have hne : e.on ≠ i := by omega
      have hlt2 : e.on < ops.size := by omega
      exact ⟨hdep e he hb, by simp [hne, hdep e he hb, hlt2]⟩) hV
      (fun a' w' => ∃ v, a' = (putD (fun j => if j = i then x else if l j && decide (j < ops.size) then val j else dv j) ds 0 a).put o.dst v ∧ J (fun j => j == i || l j) (fun j => if j = i then v else val j) w') (fun v w' hJ => ⟨v, rfl, hJ⟩)
    have h2 : wpOpIn F n P ops Q i (fun a' w' => ∃ v, a' = (putD (fun j => if j = i then x else if l j && decide (j < ops.size) then val j else dv j) ds 0 a).put o.dst v ∧ (J (fun j => j == i || l j) (fun j => if j = i then v else val j) w')) (putD (fun j => if j = i then x else if l j && decide (j < ops.size) then val j else dv j) ds 0 a) W := by
      unfold wpOpIn
      simp only [hi]
      rw [if_pos h1.1]
      exact h1.2
    rw [hsplit] at h2
    have h3 := wpOpIn_strip (R := fun v w' => J (fun j => j == i || l j) (fun j => if j = i then v else val j) w') hro hi (fun cs b => c2 i o cs b hi) hQ (fun j => if j = i then x else if l j && decide (j < ops.size) then val j else dv j) ((List.range ops.size).filter fun j => !(j == i || l j))
      (putL ops val ((List.range ops.size).filter l) a) ?_ h2
    · refine wpOpIn_mono (fun a' w' h => ?_) h3
      obtain ⟨v, rfl, hJ⟩ := h
      refine ⟨fun j => if j = i then v else val j, ?_, hJ⟩
      have e1 : putL ops val ((List.range ops.size).filter l) a = putL ops (fun j => if j = i then v else val j) ((List.range ops.size).filter l) a := putL_congr _ _ (fun k hk => by
          have : k ≠ i := fun h => by
            have := (List.mem_filter.1 hk).2
            rw [h, hli] at this
            cases this
          simp [this])
      rw [putL_perm hdist _ ((filter_add hli _ List.nodup_range (List.mem_range.2 hlt)).trans (List.perm_append_singleton i _).symm) a, putL_append, ← e1]
      simp [putL, dstAt, hi]
    · intro k hk
      obtain ⟨hk1, hk2⟩ := List.mem_filter.1 hk
      have hk1 := List.mem_range.1 hk1
      have e : k ≠ i := fun h => by subst h; simp at hk2
      rcases c4 k i _ o e (Array.getElem?_eq_getElem hk1) hi with ⟨e', he', hb', rfl⟩ | h
      · have := hdep e' he' hb'
        simp [this] at hk2
      · exact ⟨_, Array.getElem?_eq_getElem hk1, h⟩
  · rintro l _ W hall ⟨val, rfl, hV⟩
    have : (List.range ops.size).filter l = List.range ops.size := List.filter_eq_self.2 fun i hi => hall i (List.mem_range.1 hi)
    rw [this, ← hcan]
    exact hfin l val W hall hV


theorem wpIn_region_jointL {id : Nat} {a : Act} {w : World} (ds : List (Option Tmp)) (J : (Nat → Bool) → (Nat → Value) → World → Prop) (hro : F.round = none) (hm : P.follows .mixedOrders = true)
    (hchk : chkH ops = true) (hds : ops.toList.map (·.dst) = ds) (hQ : ∀ c (d : Option Tmp) (v : Value) a w, Q (.panic c) (a.put d v) w → Q (.panic c) a w)
    (h0 : J (fun _ => false) (fun _ => undef) w.drew)
    (hop : opsAll (fun i o => ∀ (val' : Nat → Value) (l : Nat → Bool) (val : Nat → Value) W, l i = false → depAll (fun j => l j = true ∧ val' j = val j) o.after.toList → J l val W →
      ∀ K : Act → World → Prop, (∀ v w', J (fun j => j == i || l j) (fun j => if j = i then v else val j) w' → K ((putD val' ds 0 a).put o.dst v) w') → Region.wanted o (yielded ops (putD val' ds 0 a).tmps) = true ∧ o.wpIn F n P (putD val' ds 0 a) W K Q) ops.toList 0)
    (hfin : ∀ (l : Nat → Bool) (val : Nat → Value) W, (∀ i, i < ops.size → l i = true) → J l val W → Q .normal (putD val ds 0 a) W) : (Code.region id ops true).wpIn F n P Q a w := by
  refine wpIn_region_joint ds (fun _ => undef) J hro hm hchk hds hQ h0 (fun i o hi l val val' W hli hv hd hJ K hK => ?_) hfin
  have hgo := opsAll_get _ _ hop i o (by rw [Array.getElem?_toList]; exact hi)
  simp only [Nat.zero_add] at hgo
  exact hgo val' l val W hli (depAll_of _ (fun e he hb => hd e (by simpa using he) hb)) hJ K hK

/-- Each operation hands back a value that is known ahead; the law hangs on what has been done. -/
theorem wpIn_region_valsL {id : Nat} {a : Act} {w : World} (ds : List (Option Tmp)) (vs : Nat → Value) (C : (Nat → Bool) → World → Prop) (hro : F.round = none) (hm : P.follows .mixedOrders = true)
    (hchk : chkH ops = true) (hds : ops.toList.map (·.dst) = ds) (hQ : ∀ c (d : Option Tmp) (v : Value) a w, Q (.panic c) (a.put d v) w → Q (.panic c) a w)
    (h0 : C (fun _ => false) w.drew)
    (hop : opsAll (fun i o => ∀ x (l : Nat → Bool) W, l i = false → depAll (fun j => l j = true) o.after.toList → C l W →
      ∀ K : Act → World → Prop, (∀ w', C (fun j => j == i || l j) w' → K ((putD (fun j => if j = i then x else vs j) ds 0 a).put o.dst (vs i)) w') → Region.wanted o (yielded ops (putD (fun j => if j = i then x else vs j) ds 0 a).tmps) = true ∧ o.wpIn F n P (putD (fun j => if j = i then x else vs j) ds 0 a) W K Q) ops.toList 0)
    (hfin : ∀ l W, (∀ i, i < ops.size → l i = true) → C l W → Q .normal (putD vs ds 0 a) W) : (Code.region id ops true).wpIn F n P Q a w := by
  refine wpIn_region_joint ds vs (fun l val W => (∀ i, i < ops.size → l i = true → val i = vs i) ∧ C l W) hro hm hchk hds hQ ⟨(fun _ _ h => by cases h), h0⟩ (fun i o hi l val val' W hli hv hd hJ K hK => ?_) (fun l val W hall hJ => ?_)
  · have hlt : i < ops.size := (Array.getElem?_eq_some_iff.1 hi).1
    have hgo := opsAll_get _ _ hop i o (by rw [Array.getElem?_toList]; exact hi)
    simp only [Nat.zero_add] at hgo
    have hval : val' = fun j => if j = i then val' i else vs j := by
      funext j
      by_cases e : j = i
      · subst e; simp
      · simp only [e, if_false]
        rcases hv j e with ⟨h1, h2, h3⟩ | h
        · exact h3.trans (hJ.1 j h1 h2)
        · exact h
    have := hgo (val' i) l W hli (depAll_of _ (fun e he hb => (hd e (by simpa using he) hb).1)) hJ.2 K
    rw [← hval] at this
    refine this (fun w' hC' => hK _ _ ⟨fun j hj hlj => ?_, hC'⟩)
    by_cases e : j = i
    · subst e; simp
    · simp only [e, if_false]
      exact hJ.1 j hj (by simpa [e] using hlj)
  · have key : ∀ (m : List (Option Tmp)) (k : Nat) (b : Act), k + m.length ≤ ops.size → putD val m k b = putD vs m k b := by
      intro m
      induction m with
      | nil => intro k b _; rfl
      | cons d r ih =>
        intro k b h
        simp only [List.length_cons] at h
        simp only [putD]
        rw [hJ.1 k (by omega) (hall k (by omega)), ih (k + 1) _ (by omega)]
    rw [key ds 0 a (by rw [← hds]; simp)]
    exact hfin l W hall hJ.2
end
end Go.Proofs.Ytilmlgngnbokfaa
