/- Crowd, plain: the wall that is told; another wall; a wall without one of its stands; moves as far as they can be made. -/
import Derived.Test.YtomfnldlnoiloaaDoorV5
import Derived.Test.YtomfnldlnoiloaaDoorD10
import Derived.Test.YtomfnldlnoiloaaDoorS12
namespace Go.Proofs.YtomfnldlnoiloaaDoor
set_option linter.unusedVariables false
set_option linter.unusedSimpArgs false

/-- As far as See comes, all is made. -/
theorem good_made {v : Vis} {l : List Mv} : ∀ {f now k k' : Nat} {c : Int}, seeG v l f now k = (k', c) → k ≤ l.length → (∀ y, y ∈ l.take k → y.1 ≤ now) → Good v [] (l.take k) → Good v [] (l.take k') ∧ k' ≤ l.length
  | 0, now, k, k', c, h, hk, hm, hg => by
    rw [seeG] at h
    cases h
    exact ⟨hg, hk⟩
  | f + 1, now, k, k', c, h, hk, hm, hg => by
    by_cases hn : 61 ≤ now
    · rw [seeG, if_pos hn] at h
      cases h
      exact ⟨hg, hk⟩
    · by_cases hkl : k < l.length
      · rw [seeG_some (by omega) hkl] at h
        by_cases h0 : chkM v (l.take k) now l[k] = 0
        · rw [if_pos h0] at h
          obtain ⟨o1, o2⟩ := chk_zero h0
          have e := take_succ hkl
          refine good_made h (by omega) (fun y hy => ?_) ?_
          · rw [e] at hy
            rcases List.mem_append.1 hy with hy | hy
            · exact hm y hy
            · rw [List.mem_singleton] at hy; subst hy; omega
          · rw [e, Good.app]
            refine ⟨hg, ⟨o1, fun y hy => ?_, ?_⟩, trivial⟩
            · rw [List.nil_append] at hy; have := hm y hy; omega
            · rw [List.nil_append, o2]; exact h0
        · rw [if_neg h0] at h
          by_cases h1 : chkM v (l.take k) now l[k] = -1
          · rw [if_pos h1] at h
            exact good_made h hk (fun y hy => by have := hm y hy; push_cast; omega) hg
          · rw [if_neg h1] at h
            cases h
            exact ⟨hg, hk⟩
      · rw [seeG_none (by omega) (by omega)] at h
        exact good_made h hk (fun y hy => by have := hm y hy; push_cast; omega) hg
theorem made_part {v : Vis} {l : List Mv} {k : Nat} {c : Int} (h : seeF v l = (k, c)) : Good v [] (l.take k) ∧ k ≤ l.length :=
  good_made h (Nat.zero_le _) (fun y hy => by rw [List.take_zero] at hy; cases hy) (by rw [List.take_zero]; trivial)
/-- What the law asks of See. -/
theorem see_part {v : Vis} {l : List Mv} {p m : Nat} (he : errN v p m = 0) (h256 : l.length ≤ 256) (h : (seeV v l p m).2.2 ≠ 0) : ∃ k, k ≤ l.length ∧ (seeV v l p m).2.1 = (k : Int) ∧ Good v [] (l.take k) := by
  have h3 : (seeF v l).2 ≠ 0 := fun h3 => h (by unfold seeV; rw [if_pos he, if_pos h256, if_pos h3])
  obtain ⟨g1, g2⟩ := made_part (v := v) (l := l) (k := (seeF v l).1) (c := (seeF v l).2) rfl
  refine ⟨_, g2, ?_, g1⟩
  unfold seeV
  rw [if_pos he, if_pos h256, if_neg h3]
theorem widL_same {S S' : Nat → Bool} : ∀ {L : List Arc3}, (∀ a, a ∈ L → S a.1 = S' a.1 ∧ S a.2.1 = S' a.2.1) → widL S L = widL S' L
  | [], _ => rfl
  | a :: L, h => by
    rw [widL_cons, widL_cons, widL_same (L := L) fun x hx => h x (by simp [hx])]
    obtain ⟨h1, h2⟩ := h a (by simp)
    unfold crossA
    rw [h1, h2]
theorem hasL_stands {v : Vis} {m q t : Nat} {R : Nat → Bool} (hq : q < v.n) (ht : t ≤ m) : hasL (standsR v m R) q t = R (nd v.n q t) := by
  unfold hasL
  by_cases h : R (nd v.n q t) = true
  · rw [h]
    exact decide_eq_true (standsR_mem.2 ⟨q, t, hq, ht, h, rfl⟩)
  · rw [Bool.not_eq_true] at h
    rw [h]
    refine decide_eq_false fun hm => ?_
    obtain ⟨q', t', _, _, hr, e⟩ := standsR_mem.1 hm
    simp only [Prod.mk.injEq] at e
    have e1 : q' = q := by omega
    have e2 : t' = t := by omega
    subst e1 e2
    rw [h] at hr
    cases hr
theorem nd_split {n x : Nat} (hn : 0 < n) : nd n (x % n) (x / n) = x := by
  unfold nd
  rw [Nat.mul_comm]
  exact Nat.div_add_mod x n
/-- The wall that is told is as wide as most can see. -/
theorem wall_width {v : Vis} (hv : VisOk v) {p m : Nat} (hp : p < v.n) {val : Int} {R : Nat → Bool} (h : MostIs v p m val R) : widthW v (hasL (standsR v m R)) p m = val := by
  rw [← width_cut hv _ hp, h.width]
  refine widL_same fun a ha => ?_
  have hends := (netD_ok hv (p := p) (m := m) hp).ends a ha
  have key : ∀ x, x < snkN v m + 1 → setOf v m (hasL (standsR v m R)) x = R x := fun x hx => by
    by_cases e : x < srcN v m
    · have hn := hv.n
      have hx2 : x / v.n ≤ m := by
        unfold srcN nd at e
        have : x / v.n < m + 1 := (Nat.div_lt_iff_lt_mul (by omega)).2 (by omega)
        omega
      have hx1 : x % v.n < v.n := Nat.mod_lt _ (by omega)
      unfold setOf
      rw [if_pos e, hasL_stands hx1 hx2, nd_split (by omega)]
    · have hx2 : x = srcN v m ∨ x = snkN v m := by unfold snkN at hx ⊢; omega
      rcases hx2 with rfl | rfl
      · rw [setOf_src, h.src]
      · rw [setOf_snk, h.sink]
  exact ⟨key _ hends.1, key _ hends.2⟩
/-- No other is narrower. -/
theorem other_width {v : Vis} (hv : VisOk v) {p m : Nat} (hp : p < v.n) {val : Int} {R : Nat → Bool} (h : MostIs v p m val R) (has : Nat → Nat → Bool) : val ≤ widthW v has p m := by
  rw [← width_cut hv _ hp]
  exact h.least _ (setOf_src _ _ _) (setOf_snk _ _ _)
/-- Without one of its stands it is wider. -/
theorem less_width {v : Vis} (hv : VisOk v) {p m : Nat} (hp : p < v.n) {val : Int} {R : Nat → Bool} (h : MostIs v p m val R) {i : Nat} (hi : i < (standsR v m R).length) : val < widthW v (hasL ((standsR v m R).take i ++ (standsR v m R).drop (i + 1))) p m := by
  have h1 := other_width hv hp h (hasL ((standsR v m R).take i ++ (standsR v m R).drop (i + 1)))
  rcases Int.lt_or_eq_of_le h1 with h2 | h2
  · exact h2
  · exfalso
    rw [← width_cut hv _ hp] at h2
    have hw := h.within _ (setOf_src _ _ _) (setOf_snk _ _ _) h2.symm
    obtain ⟨q, t, hq, ht, hr, e⟩ := standsR_mem.1 (List.getElem_mem hi)
    have h3 := hw _ hr
    rw [setOf_nd _ hq ht] at h3
    have h4 := of_decide_eq_true h3
    rw [← e] at h4
    have hpw := standsR_pair v m R
    have hsp : standsR v m R = (standsR v m R).take i ++ (standsR v m R)[i] :: (standsR v m R).drop (i + 1) := by
      conv => lhs; rw [← List.take_append_drop i (standsR v m R), List.drop_eq_getElem_cons hi]
    generalize (standsR v m R)[i] = z at *
    generalize (standsR v m R).take i = a at *
    generalize (standsR v m R).drop (i + 1) = b at *
    rw [hsp, List.pairwise_append] at hpw
    obtain ⟨_, hb, hab⟩ := hpw
    rw [List.pairwise_cons] at hb
    have irr : ∀ x : Int × Int, ¬ ltT x x := fun x hx => by unfold ltT at hx; omega
    rcases List.mem_append.1 h4 with hm | hm
    · exact irr z (hab z hm z (by simp))
    · exact irr z (hb.1 z hm)
/-- What most can see lies between none and the room there. -/
theorem most_range {v : Vis} (hv : VisOk v) {p m : Nat} (hp : p < v.n) {val : Int} {R : Nat → Bool} (h : MostIs v p m val R) : 0 ≤ val ∧ val ≤ v.room p := by
  constructor
  · rw [h.width]
    unfold widL
    refine lsum_nn fun a ha => ?_
    have := (netD_ok hv (p := p) (m := m) hp).cap a ha
    unfold crossA
    split <;> omega
  · have h1 := h.least (fun x => x != snkN v m) (by simp [snkN]) (by simp)
    rw [(most_sink (v := v) (p := p) (m := m) hv hp).2] at h1
    exact h1
/-- No more see than most can. -/
theorem see_most {v : Vis} (hv : VisOk v) {p m : Nat} (hp : p < v.n) {val : Int} {R : Nat → Bool} (h : MostIs v p m val R) {l : List Mv} (hg : Good v [] l) : min (begM v l p m) (v.room p) ≤ val := by
  rw [h.width]
  exact see_cut hv hg R hp h.src h.sink
end Go.Proofs.YtomfnldlnoiloaaDoor
