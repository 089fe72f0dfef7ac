/- Crowd, plain: whatever moves are made, no more see than a cut is wide. -/
import Derived.Test.YtomfnldlnoiloaaDoorV3
import Derived.Test.YtomfnldlnoiloaaDoorV4
namespace Go.Proofs.YtomfnldlnoiloaaDoor
set_option linter.unusedVariables false
set_option linter.unusedSimpArgs false

theorem lsum_map_add {α : Type} (f g : α → Int) : ∀ l : List α, lsum (l.map fun x => f x + g x) = lsum (l.map f) + lsum (l.map g)
  | [] => rfl
  | a :: l => by simp only [List.map_cons, lsum_cons]; rw [lsum_map_add f g l]; omega
theorem lsum_sumK {α : Type} (g : α → Int) (d : α) (l : List α) : lsum (l.map g) = sumK (fun k => g (l.getD k d)) l.length := by
  have key : ∀ k, k ≤ l.length → lsum ((l.take k).map g) = sumK (fun k => g (l.getD k d)) k := fun k => by
    induction k with
    | zero => intro _; rfl
    | succ k ih =>
      intro hk
      rw [List.take_succ_eq_append_getElem (by omega), List.map_append, lsum_app, ih (by omega), sumK_succ]
      simp [lsum, List.getD_eq_getElem?_getD, show k < l.length by omega]
  have := key l.length (Nat.le_refl _)
  rwa [List.take_length] at this
/-- A sum over places of sums over moves. -/
theorem sumK_by {α : Type} (B : Nat → Bool) (key : α → Nat) (Q : α → Prop) [DecidablePred Q] (c : α → Int) (n : Nat) : ∀ l : List α, (∀ x, x ∈ l → key x < n) →
    sumK (fun q => if B q then lsum (l.map fun x => if key x = q ∧ Q x then c x else 0) else 0) n = lsum (l.map fun x => if B (key x) = true ∧ Q x then c x else 0)
  | [], _ => by
    rw [sumK_congr (h := fun _ => 0) (fun i _ => by simp [lsum]), sumK_zero]; rfl
  | a :: l, h => by
    have ih := sumK_by B key Q c n l fun x hx => h x (by simp [hx])
    have ha := h a (by simp)
    rw [List.map_cons, lsum_cons, ← ih]
    rw [sumK_congr (h := fun q => (if key a = q then (if B (key a) = true ∧ Q a then c a else 0) else 0) + (if B q then lsum (l.map fun x => if key x = q ∧ Q x then c x else 0) else 0)) (fun q _ => ?_), sumK_add, sumK_pick, if_pos ha]
    rw [List.map_cons, lsum_cons]
    by_cases e : key a = q
    · subst e
      cases hb : B (key a) <;> by_cases hq : Q a <;> simp [hq]
    · cases hb : B q <;> simp [e]
theorem sumK_nn {g : Nat → Int} : ∀ {k : Nat}, (∀ i, i < k → 0 ≤ g i) → 0 ≤ sumK g k
  | 0, _ => Int.le_refl _
  | k + 1, h => by
    rw [sumK_succ]
    have := h k (by omega)
    have := sumK_nn (g := g) (k := k) fun i hi => h i (by omega)
    omega
theorem sumK_ge {g : Nat → Int} {j : Nat} : ∀ {k : Nat}, (∀ i, i < k → 0 ≤ g i) → j < k → g j ≤ sumK g k
  | 0, _, h => by omega
  | k + 1, h, hj => by
    rw [sumK_succ]
    have h1 := h k (by omega)
    have h2 := sumK_nn (g := g) (k := k) fun i hi => h i (by omega)
    by_cases e : j = k
    · subst e; omega
    · have := sumK_ge (g := g) (k := k) (fun i hi => h i (by omega)) (show j < k by omega)
      omega
theorem chk_room {v : Vis} {ms : List Mv} {now : Nat} {m : Mv} (h : chkM v ms now m = 0) : outM ms now m.2.1.toNat + m.2.2 ≤ (v.far m.2.1.toNat).2.2.2 := by
  obtain ⟨h1, h2⟩ := chk_zero h
  unfold chkM at h
  rw [if_pos (mvOk_iff.2 h1), if_neg (by omega), if_neg (by omega)] at h
  by_cases h3 : (v.far m.2.1.toNat).2.2.2 < outM ms now m.2.1.toNat + m.2.2
  · rw [if_pos h3] at h; cases h
  · omega
theorem out_room {v : Vis} : ∀ {l ms : List Mv}, (∀ t k, k < v.tr.length → outM ms t k ≤ (v.far k).2.2.2) → Good v ms l → ∀ t k, k < v.tr.length → outM (ms ++ l) t k ≤ (v.far k).2.2.2
  | [], ms, h, _ => by rw [List.append_nil]; exact h
  | x :: l, ms, h, hg => by
    rw [List.append_cons]
    refine out_room (fun t k hk => ?_) hg.2
    rw [outM_snoc]
    by_cases e : x.1.toNat = t ∧ x.2.1.toNat = k
    · rw [if_pos e, ← e.1, ← e.2]; exact chk_room hg.1.2.2
    · rw [if_neg e]; have := h t k hk; omega
theorem good_out {v : Vis} (hv : VisOk v) {l : List Mv} (hg : Good v [] l) {t k : Nat} (hk : k < v.tr.length) : outM l t k ≤ (v.far k).2.2.2 := by
  have := out_room (ms := []) (fun t k hk => by have := (far_ok hv hk).2.2.2.2.1; simp [outM, lsum]; omega) hg t k hk
  rwa [List.nil_append] at this

section
variable {v : Vis} (hv : VisOk v) {l : List Mv} (hg : Good v [] l) (S : Nat → Bool) {m : Nat}
def frM (v : Vis) (x : Mv) : Nat := (v.far x.2.1.toNat).1.toNat
def toM (v : Vis) (x : Mv) : Nat := (v.far x.2.1.toNat).2.1.toNat
def whM (v : Vis) (x : Mv) : Nat := x.1.toNat + (v.far x.2.1.toNat).2.2.1.toNat
/-- Those of a cut's far side, at places. -/
def farX (v : Vis) (l : List Mv) (S : Nat → Bool) (t : Nat) : Int := sumK (fun q => if S (nd v.n q t) then 0 else begM v l q t) v.n
/-- .. on trails, when a minute has begun. -/
def farY (v : Vis) (l : List Mv) (S : Nat → Bool) (m t : Nat) : Int := lsum (l.map fun x => if x.1.toNat < t ∧ t < whM v x ∧ whM v x ≤ m ∧ S (nd v.n (toM v x) (whM v x)) = false then x.2.2 else 0)
def farL (v : Vis) (l : List Mv) (S : Nat → Bool) (t : Nat) : Int := sumK (fun q => if S (nd v.n q t) then 0 else lefM v l q t) v.n
def farC (v : Vis) (l : List Mv) (S : Nat → Bool) (t : Nat) : Int := sumK (fun q => if S (nd v.n q t) then 0 else comM v l q t) v.n
def cutA (v : Vis) (S : Nat → Bool) (t : Nat) : Int := sumK (fun q => if S (nd v.n q t) then 0 else arrive v q t) v.n
def cutW (v : Vis) (S : Nat → Bool) (t : Nat) : Int := sumK (fun q => crossA S (waitA v t q)) v.n
def cutT (v : Vis) (S : Nat → Bool) (m t : Nat) : Int := lsum (v.tr.map fun x => if t + x.2.2.1.toNat ≤ m then crossA S (nd v.n x.1.toNat t, nd v.n x.2.1.toNat (t + x.2.2.1.toNat), x.2.2.2) else 0)
theorem cut_parts {p : Nat} (hs : S (srcN v m) = true) : widL S (netD v p m) = sumK (fun t => cutA v S t + (if t < m then cutW v S t else 0) + cutT v S m t) (m + 1) + crossA S (lastA v p m) := by
  rw [widL_netD]
  congr 1
  refine sumK_congr fun t _ => ?_
  congr 1
  rw [sumK_add]
  congr 1
  · refine sumK_congr fun q _ => ?_
    unfold crossA
    dsimp only
    rw [hs]
    cases S (nd v.n q t) <;> rfl
  · by_cases e : t < m
    · rw [if_pos e]; exact sumK_congr fun q _ => by rw [if_pos e]
    · rw [if_neg e, sumK_congr (h := fun _ => 0) (fun q _ => by rw [if_neg e]), sumK_zero]
include hv hg
theorem mv_ok {x : Mv} (hx : x ∈ l) : MvOk v x ∧ frM v x < v.n ∧ toM v x < v.n ∧ x.1.toNat + 1 ≤ whM v x := by
  have h := hg.all x hx
  have hf := far_ok hv h.k.2
  unfold frM toM whM
  exact ⟨h, by omega, by omega, by omega⟩
theorem farL_moves (t : Nat) : farL v l S t = lsum (l.map fun x => if (!S (nd v.n (frM v x) t)) = true ∧ x.1.toNat = t then x.2.2 else 0) := by
  unfold farL
  rw [← sumK_by (fun q => !S (nd v.n q t)) (frM v) (fun x => x.1.toNat = t) (fun x => x.2.2) v.n l (fun x hx => (mv_ok hv hg hx).2.1)]
  refine sumK_congr fun q _ => ?_
  have e : lefM v l q t = lsum (l.map fun x => if frM v x = q ∧ x.1.toNat = t then x.2.2 else 0) := by
    unfold lefM
    congr 1
    exact List.map_congr_left fun x _ => by simp only [frM, and_comm]
  rw [e]
  cases S (nd v.n q t) <;> rfl
theorem farC_moves (t : Nat) : farC v l S t = lsum (l.map fun x => if (!S (nd v.n (toM v x) t)) = true ∧ whM v x = t then x.2.2 else 0) := by
  unfold farC
  rw [← sumK_by (fun q => !S (nd v.n q t)) (toM v) (fun x => whM v x = t) (fun x => x.2.2) v.n l (fun x hx => (mv_ok hv hg hx).2.2.1)]
  refine sumK_congr fun q _ => ?_
  have e : comM v l q t = lsum (l.map fun x => if toM v x = q ∧ whM v x = t then x.2.2 else 0) := rfl
  rw [e]
  cases S (nd v.n q t) <;> rfl
theorem cutT_moves (t : Nat) : lsum (l.map fun x => if x.1.toNat = t ∧ whM v x ≤ m ∧ S (nd v.n (frM v x) t) = true ∧ S (nd v.n (toM v x) (whM v x)) = false then x.2.2 else 0) ≤ cutT v S m t := by
  unfold cutT
  rw [lsum_sumK _ (0, 0, 0, 0) v.tr]
  have e : lsum (l.map fun x => if x.1.toNat = t ∧ whM v x ≤ m ∧ S (nd v.n (frM v x) t) = true ∧ S (nd v.n (toM v x) (whM v x)) = false then x.2.2 else 0) =
      lsum (l.map fun x => if (decide (t + (v.far x.2.1.toNat).2.2.1.toNat ≤ m) && S (nd v.n (v.far x.2.1.toNat).1.toNat t) && !S (nd v.n (v.far x.2.1.toNat).2.1.toNat (t + (v.far x.2.1.toNat).2.2.1.toNat))) = true ∧ x.1.toNat = t then x.2.2 else 0) := by
    congr 1
    refine List.map_congr_left fun x _ => ?_
    unfold whM frM toM
    by_cases e : x.1.toNat = t
    · rw [e]
      by_cases e2 : t + (v.far x.2.1.toNat).2.2.1.toNat ≤ m
      · cases S (nd v.n (v.far x.2.1.toNat).1.toNat t) <;> cases S (nd v.n (v.far x.2.1.toNat).2.1.toNat (t + (v.far x.2.1.toNat).2.2.1.toNat)) <;> simp [e2]
      · simp [e2]
    · simp [e]
  rw [e, ← sumK_by (fun k => decide (t + (v.far k).2.2.1.toNat ≤ m) && S (nd v.n (v.far k).1.toNat t) && !S (nd v.n (v.far k).2.1.toNat (t + (v.far k).2.2.1.toNat))) (fun x : Mv => x.2.1.toNat) (fun x => x.1.toNat = t) (fun x => x.2.2) v.tr.length l (fun x hx => (mv_ok hv hg hx).1.k.2)]
  refine sumK_le fun k hk => ?_
  have ho := good_out hv hg (t := t) hk
  have e3 : outM l t k = lsum (l.map fun x => if x.2.1.toNat = k ∧ x.1.toNat = t then x.2.2 else 0) := by
    unfold outM
    congr 1
    exact List.map_congr_left fun x _ => by simp only [and_comm]
  rw [e3] at ho
  show _ ≤ if t + (v.far k).2.2.1.toNat ≤ m then crossA S (nd v.n (v.far k).1.toNat t, nd v.n (v.far k).2.1.toNat (t + (v.far k).2.2.1.toNat), (v.far k).2.2.2) else 0
  by_cases e2 : t + (v.far k).2.2.1.toNat ≤ m
  · unfold crossA
    cases S (nd v.n (v.far k).1.toNat t) <;> cases S (nd v.n (v.far k).2.1.toNat (t + (v.far k).2.2.1.toNat)) <;> simp [e2] <;> omega
  · simp [e2]
/-- Those on the far side, minute by minute. -/
theorem far_step {t : Nat} (ht : t + 1 ≤ m) : farX v l S (t + 1) + farY v l S m (t + 1) ≤ farX v l S t + farY v l S m t + cutW v S t + cutT v S m t + cutA v S (t + 1) := by
  have h1 : farX v l S (t + 1) + farL v l S t ≤ farX v l S t + cutW v S t + cutA v S (t + 1) + farC v l S (t + 1) := by
    unfold farX farL cutW cutA farC
    rw [← sumK_add, ← sumK_add, ← sumK_add, ← sumK_add]
    refine sumK_le fun q hq => ?_
    have hth := good_nn hv hg hq (t + 1)
    rw [thM_succ] at hth
    have hb : begM v l q (t + 1) = min (begM v l q t - lefM v l q t) (v.room q) + (arrive v q (t + 1) + comM v l q (t + 1)) := by
      rw [begM, thM_succ, comA]
    have hr := hv.room q hq
    unfold crossA waitA
    rw [hb]
    cases S (nd v.n q t) <;> cases S (nd v.n q (t + 1)) <;> simp <;> omega
  have h2 : farC v l S (t + 1) + farY v l S m (t + 1) ≤ farL v l S t + farY v l S m t + cutT v S m t := by
    have h3 := cutT_moves hv hg S (m := m) t
    rw [farC_moves hv hg, farL_moves hv hg]
    unfold farY
    refine Int.le_trans ?_ (Int.add_le_add_left h3 _)
    rw [← lsum_map_add, ← lsum_map_add, ← lsum_map_add]
    refine lsum_map_le fun x hx => ?_
    obtain ⟨o1, o2, o3, o4⟩ := mv_ok hv hg hx
    have hc := o1.c
    generalize whM v x = u at *
    by_cases eu : u = t + 1
    · subst eu
      by_cases e1 : x.1.toNat = t
      · cases S (nd v.n (frM v x) t) <;> cases S (nd v.n (toM v x) (t + 1)) <;> simp [e1, ht] <;> omega
      · have e2 : x.1.toNat < t := by omega
        cases S (nd v.n (frM v x) t) <;> cases S (nd v.n (toM v x) (t + 1)) <;> simp [e1, ht, e2]
    · by_cases e1 : x.1.toNat = t
      · have e5 : t + 1 < u := by omega
        by_cases e6 : u ≤ m
        · cases S (nd v.n (frM v x) t) <;> cases S (nd v.n (toM v x) u) <;> simp [e1, eu, e5, e6] <;> omega
        · cases S (nd v.n (frM v x) t) <;> simp [e1, eu, e6] <;> omega
      · by_cases e2 : x.1.toNat < t + 1 ∧ t + 1 < u
        · have e7 : x.1.toNat < t ∧ t < u := by omega
          simp [eu, e1, e2.1, e2.2, e7.1, e7.2]
        · have e8 : ¬ (x.1.toNat < t + 1 ∧ t + 1 < u ∧ u ≤ m ∧ S (nd v.n (toM v x) u) = false) := fun h => e2 ⟨h.1, h.2.1⟩
          rw [if_neg e8, if_neg (fun h : _ ∧ u = t + 1 => eu h.2), if_neg (fun h : _ ∧ x.1.toNat = t => e1 h.2), if_neg (fun h : x.1.toNat = t ∧ _ => e1 h.1)]
          split <;> omega
  omega
theorem far_all : ∀ t, t ≤ m → farX v l S t + farY v l S m t ≤ sumK (fun t => cutA v S t + (if t < m then cutW v S t else 0) + cutT v S m t) t + cutA v S t
  | 0, _ => by
    have e1 : farY v l S m 0 = 0 := lsum_zero _ l fun x hx => if_neg fun h => by omega
    have e2 : farX v l S 0 ≤ cutA v S 0 := by
      refine sumK_le fun q hq => ?_
      have hr := hv.room q hq
      have hc : comM v l q 0 = 0 := lsum_zero _ l fun x hx => if_neg fun h => by
        have := (mv_ok hv hg hx).2.2.2
        unfold whM at this
        omega
      rw [begM, thM, comA, hc]
      split <;> omega
    show _ ≤ 0 + cutA v S 0
    omega
  | t + 1, ht => by
    have h1 := far_all t (by omega)
    have h2 := far_step hv hg S ht
    rw [sumK_succ, if_pos (by omega)]
    omega
/-- No more see than a cut is wide. -/
theorem see_cut {p : Nat} (hp : p < v.n) (hs : S (srcN v m) = true) (ht : S (snkN v m) = false) : min (begM v l p m) (v.room p) ≤ widL S (netD v p m) := by
  have hA : ∀ t, 0 ≤ cutA v S t := fun t => sumK_nn fun q _ => by have := arrive_top hv q t; split <;> omega
  have hW : ∀ t, 0 ≤ cutW v S t := fun t => sumK_nn fun q hq => cross_nn S (hv.room q hq).1
  have hT : ∀ t, 0 ≤ cutT v S m t := fun t => lsum_nn fun x hx => by
    have := (hv.tr x hx).2.2.2.2.1
    split
    · exact cross_nn S this
    · omega
  have hG : ∀ t, 0 ≤ cutA v S t + (if t < m then cutW v S t else 0) + cutT v S m t := fun t => by
    have := hA t
    have := hW t
    have := hT t
    split <;> omega
  have hl := cross_nn S (a := nd v.n p m) (b := snkN v m) (hv.room p hp).1
  rw [cut_parts S hs]
  cases hS : S (nd v.n p m)
  · have h1 := far_all hv hg S m (Nat.le_refl _)
    have h2 : 0 ≤ farY v l S m m := lsum_nn fun x hx => by have := (mv_ok hv hg hx).1.c; split <;> omega
    have h3 : begM v l p m ≤ farX v l S m := by
      have := sumK_ge (g := fun q => if S (nd v.n q m) then 0 else begM v l q m) (j := p) (k := v.n) (fun i hi => by have := good_beg hv hg hi m; split <;> omega) hp
      simp only [hS] at this
      exact this
    rw [sumK_succ, if_neg (Nat.lt_irrefl _)]
    have := hT m
    unfold lastA
    omega
  · have h1 := sumK_nn (k := m + 1) fun t _ => hG t
    have h2 : crossA S (lastA v p m) = v.room p := by unfold crossA lastA; simp [hS, ht]
    omega
end
end Go.Proofs.YtomfnldlnoiloaaDoor
