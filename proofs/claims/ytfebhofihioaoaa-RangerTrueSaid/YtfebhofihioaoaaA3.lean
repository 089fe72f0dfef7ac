/- Ranger, plain: runs of steps of the same size, the smallest ones first. -/
import Derived.Test.YtfebhofihioaoaaA2
namespace Go.Proofs.Ytfebhofihioaoaa
set_option linter.unusedVariables false
set_option linter.unusedSimpArgs false

abbrev Tri := (Int × Int) × Int
def totT : List Tri → Int
  | [] => 0
  | t :: r => t.2 + totT r
def cstT : List Tri → Int
  | [] => 0
  | t :: r => t.2 * t.1.1 + cstT r
def OkT (l : List Tri) : Prop := ∀ t ∈ l, 0 ≤ t.2 ∧ t.2 ≤ t.1.2
theorem totT_perm {l r : List Tri} (h : l.Perm r) : totT l = totT r ∧ cstT l = cstT r := by
  induction h with
  | nil => exact ⟨rfl, rfl⟩
  | cons t _ ih => simp only [totT, cstT]; omega
  | swap s t l => simp only [totT, cstT]; omega
  | trans _ _ h1 h2 => omega
theorem totT_append (l r : List Tri) : totT (l ++ r) = totT l + totT r ∧ cstT (l ++ r) = cstT l + cstT r := by
  induction l with
  | nil => simp [totT, cstT]
  | cons t l ih => simp only [List.cons_append, totT, cstT]; omega
theorem okT_perm {l r : List Tri} (h : l.Perm r) (hl : OkT l) : OkT r := fun t ht => hl t (h.mem_iff.2 ht)
theorem cstT_nonneg {l : List Tri} (hs : ∀ t ∈ l, 1 ≤ t.1.1) (h : OkT l) : 0 ≤ cstT l := by
  induction l with
  | nil => exact Int.le_refl _
  | cons t l ih =>
    have h1 := ih (fun t ht => hs t (by simp [ht])) (fun t ht => h t (by simp [ht]))
    have h2 := Int.mul_nonneg (h t (by simp)).1 (show 0 ≤ t.1.1 by have := hs t (by simp); omega)
    simp only [cstT]
    omega
/-- A list that is laid in another order, its marks with it. -/
theorem perm_marks {l r : List (Int × Int)} (h : l.Perm r) : ∀ l' : List Tri, l'.map (·.1) = l → ∃ r' : List Tri, r'.map (·.1) = r ∧ l'.Perm r' := by
  induction h with
  | nil => exact fun l' e => ⟨l', e, .refl _⟩
  | cons x _ ih =>
    intro l' e
    match l', e with
    | t :: l', e =>
      simp only [List.map_cons, List.cons.injEq] at e
      obtain ⟨rfl, e2⟩ := e
      obtain ⟨r', e', hp⟩ := ih l' e2
      exact ⟨t :: r', by simp [e'], hp.cons t⟩
  | swap x y l =>
    intro l' e
    match l', e with
    | s :: t :: l', e =>
      simp only [List.map_cons, List.cons.injEq] at e
      obtain ⟨rfl, rfl, rfl⟩ := e
      exact ⟨t :: s :: l', rfl, .swap _ _ _⟩
  | trans _ _ h1 h2 =>
    intro l' e
    obtain ⟨m', e1, p1⟩ := h1 l' e
    obtain ⟨r', e2, p2⟩ := h2 m' e1
    exact ⟨r', e2, p1.trans p2⟩

/-- How many steps are taken, run by run. -/
def greed : List (Int × Int) → Int → Int
  | [], _ => 0
  | r :: l, left => min r.2 (left / r.1) + greed l (left - min r.2 (left / r.1) * r.1)
/-- Some units less. -/
theorem drop_units {s : Int} (hs : 0 ≤ s) : ∀ (l : List Tri) (d : Int), 0 ≤ d → OkT l → (∀ t ∈ l, s ≤ t.1.1) → ∃ l' : List Tri, l'.map (·.1) = l.map (·.1) ∧ OkT l' ∧ totT l - d ≤ totT l' ∧ (cstT l' ≤ cstT l - s * d ∨ cstT l' = 0)
  | [], d, hd, _, _ => ⟨[], rfl, fun t h => (by cases h), (by simp [totT]; omega), .inr rfl⟩
  | t :: l, d, hd, hok, hs' => by
    obtain ⟨k0, kc⟩ := hok t (by simp)
    have ht := hs' t (by simp)
    by_cases hdk : d ≤ t.2
    · refine ⟨(t.1, t.2 - d) :: l, rfl, fun u hu => ?_, by simp only [totT]; omega, .inl ?_⟩
      · rcases List.mem_cons.1 hu with rfl | hu
        · exact ⟨by simp only; omega, by simp only; omega⟩
        · exact hok u (by simp [hu])
      · simp only [cstT]
        rw [Int.sub_mul]
        have := Int.mul_le_mul_of_nonneg_left ht hd
        rw [Int.mul_comm s d]
        omega
    · obtain ⟨l', e, ok', h1, h2⟩ := drop_units hs l (d - t.2) (by omega) (fun u hu => hok u (by simp [hu])) (fun u hu => hs' u (by simp [hu]))
      refine ⟨(t.1, 0) :: l', by simp [e], fun u hu => ?_, by simp only [totT]; omega, ?_⟩
      · rcases List.mem_cons.1 hu with rfl | hu
        · exact ⟨by simp, by simp only; omega⟩
        · exact ok' u hu
      · simp only [cstT, Int.zero_mul, Int.zero_add]
        rcases h2 with h2 | h2
        · left
          have h3 := Int.mul_le_mul_of_nonneg_left ht k0
          have h4 : s * (d - t.2) = s * d - s * t.2 := Int.mul_sub _ _ _
          have h5 : s * t.2 = t.2 * s := Int.mul_comm _ _
          omega
        · exact .inr h2
theorem greed_maxN : ∀ (N : Nat) (l : List Tri) (left : Int), l.length ≤ N → 0 ≤ left → (l.map (·.1)).Pairwise (fun a b => a.1 ≤ b.1) → (∀ t ∈ l, 1 ≤ t.1.1) → OkT l → cstT l ≤ left → totT l ≤ greed (l.map (·.1)) left
  | _, [], _, _, _, _, _, _, _ => Int.le_refl _
  | N + 1, t :: l, left, hN, h0, hp, h1, hok, hc => by
    rw [List.map_cons] at hp ⊢
    obtain ⟨hp1, hp2⟩ := List.pairwise_cons.1 hp
    obtain ⟨k0, kc⟩ := hok t (by simp)
    have ht := h1 t (by simp)
    have hok' : OkT l := fun u hu => hok u (by simp [hu])
    have hs' : ∀ u ∈ l, t.1.1 ≤ u.1.1 := fun u hu => hp1 _ (List.mem_map.2 ⟨u, hu, rfl⟩)
    have hcn := cstT_nonneg (fun u hu => h1 u (by simp [hu])) hok'
    simp only [cstT] at hc
    simp only [totT, greed]
    have hkn : t.2 ≤ min t.1.2 (left / t.1.1) := by
      have : t.2 ≤ left / t.1.1 := (Int.le_ediv_iff_mul_le (by omega)).2 (by omega)
      omega
    have hn : min t.1.2 (left / t.1.1) * t.1.1 ≤ left := by
      have h2 : left / t.1.1 * t.1.1 ≤ left := (Int.le_ediv_iff_mul_le (by omega)).1 (Int.le_refl _)
      have := Int.mul_le_mul_of_nonneg_right (show min t.1.2 (left / t.1.1) ≤ left / t.1.1 by omega) (show 0 ≤ t.1.1 by omega)
      omega
    generalize min t.1.2 (left / t.1.1) = n at *
    obtain ⟨l', e, ok', h3, h4⟩ := drop_units (show 0 ≤ t.1.1 by omega) l (n - t.2) (by omega) hok' hs'
    have hsz : ∀ u ∈ l', 1 ≤ u.1.1 := fun u hu => by
      have : u.1 ∈ l.map (·.1) := by rw [← e]; exact List.mem_map.2 ⟨u, hu, rfl⟩
      obtain ⟨v, hv, hve⟩ := List.mem_map.1 this
      rw [← hve]
      exact h1 v (by simp [hv])
    have hc' : cstT l' ≤ left - n * t.1.1 := by
      rcases h4 with h4 | h4
      · have h5 : t.1.1 * (n - t.2) = n * t.1.1 - t.2 * t.1.1 := by rw [Int.mul_sub, Int.mul_comm t.1.1 n, Int.mul_comm t.1.1 t.2]
        omega
      · omega
    have hN' : l'.length ≤ N := by
      have := congrArg List.length e
      simp at this hN
      omega
    have ih := greed_maxN N l' (left - n * t.1.1) hN' (by omega) (by rw [e]; exact hp2) hsz ok' hc'
    rw [e] at ih
    omega
theorem greed_max (l : List Tri) (left : Int) (h0 : 0 ≤ left) (hp : (l.map (·.1)).Pairwise (fun a b => a.1 ≤ b.1)) (h1 : ∀ t ∈ l, 1 ≤ t.1.1) (hok : OkT l) (hc : cstT l ≤ left) : totT l ≤ greed (l.map (·.1)) left := greed_maxN l.length l left (Nat.le_refl _) h0 hp h1 hok hc
/-- What is taken, run by run. -/
def taken : List (Int × Int) → Int → List Tri
  | [], _ => []
  | r :: l, left => (r, min r.2 (left / r.1)) :: taken l (left - min r.2 (left / r.1) * r.1)
theorem taken_spec : ∀ (l : List (Int × Int)) (left : Int), 0 ≤ left → (∀ r ∈ l, 1 ≤ r.1 ∧ 0 ≤ r.2) → (taken l left).map (·.1) = l ∧ OkT (taken l left) ∧ totT (taken l left) = greed l left ∧ cstT (taken l left) ≤ left
  | [], left, h0, _ => ⟨rfl, fun t h => (by cases h), rfl, h0⟩
  | r :: l, left, h0, h => by
    obtain ⟨h1, h2⟩ := h r (by simp)
    have hq : 0 ≤ left / r.1 := Int.ediv_nonneg h0 (by omega)
    have hn : min r.2 (left / r.1) * r.1 ≤ left := by
      have h2 : left / r.1 * r.1 ≤ left := (Int.le_ediv_iff_mul_le (by omega)).1 (Int.le_refl _)
      have := Int.mul_le_mul_of_nonneg_right (show min r.2 (left / r.1) ≤ left / r.1 by omega) (show 0 ≤ r.1 by omega)
      omega
    obtain ⟨a1, a2, a3, a4⟩ := taken_spec l (left - min r.2 (left / r.1) * r.1) (by omega) (fun x hx => h x (by simp [hx]))
    refine ⟨by simp only [taken, List.map_cons, a1], fun t ht => ?_, by simp only [taken, totT, greed, a3], by simp only [taken, cstT]; omega⟩
    simp only [taken] at ht
    rcases List.mem_cons.1 ht with rfl | ht
    · exact ⟨by simp only; omega, by simp only; omega⟩
    · exact a2 t ht

/-- The runs of a spot, and of the spots of a set below k. -/
def runS (h lo hi : Int) : List (Int × Int) := if firstS h lo ≤ hi - lo then [(firstS h lo, 1), (h, (hi - lo - firstS h lo) / h)] else []
def runsL (x : Prk) (S : Nat) : Nat → List (Int × Int)
  | 0 => []
  | k + 1 => runsL x S k ++ if S.testBit k then runS (x.ho k) (x.lo k) (x.hi k) else []
theorem runsL_ok {x : Prk} (hx : PrkOk x) {S : Nat} : ∀ k, k ≤ x.n → ∀ r ∈ runsL x S k, 1 ≤ r.1 ∧ 0 ≤ r.2
  | 0, _, r, h => by cases h
  | k + 1, hk, r, h => by
    simp only [runsL] at h
    rcases List.mem_append.1 h with h | h
    · exact runsL_ok hx k (by omega) r h
    · have h1 := hx.hold k (by omega)
      have hf := first_bd (h := x.ho k) (lo := x.lo k) h1.1
      split at h
      · unfold runS at h
        split at h
        · rename_i hq
          simp at h
          rcases h with rfl | rfl
          · exact ⟨hf.1, by simp⟩
          · exact ⟨h1.1, Int.ediv_nonneg (by omega) (by omega)⟩
        · cases h
      · cases h
/-- Steps at each spot, as marks of its runs. -/
theorem marks_of {x : Prk} (hx : PrkOk x) {S : Nat} {f : Nat → Int} : ∀ k, k ≤ x.n → (∀ i, i < k → 0 ≤ f i ∧ f i ≤ capC x S i) → ∃ l : List Tri, l.map (·.1) = runsL x S k ∧ OkT l ∧ totT l = sumN f k ∧ cstT l = sumN (fun i => coC x i (f i)) k
  | 0, _, _ => ⟨[], rfl, fun t h => (by cases h), rfl, rfl⟩
  | k + 1, hk, hf => by
    obtain ⟨l, e, ok, h1, h2⟩ := marks_of hx (S := S) k (by omega) (fun i hi => hf i (by omega))
    obtain ⟨f0, fc⟩ := hf k (by omega)
    have hh := hx.hold k (by omega)
    have hp := hx.peo k (by omega)
    simp only [runsL, sumN]
    unfold capC at fc
    have hzero : f k = 0 → ∃ l : List Tri, l.map (·.1) = runsL x S k ++ [] ∧ OkT l ∧ totT l = sumN f k + f k ∧ cstT l = sumN (fun i => coC x i (f i)) k + coC x k (f k) := fun e0 => ⟨l, by rw [e]; simp, ok, by omega, by rw [e0]; unfold coC; rw [cost_zero]; unfold coC at h2; omega⟩
    split at fc
    · rename_i hb
      rw [if_pos hb]
      by_cases hq : firstS (x.ho k) (x.lo k) ≤ x.hi k - x.lo k
      · have hcap : capS (x.ho k) (x.lo k) (x.hi k) = 1 + (x.hi k - x.lo k - firstS (x.ho k) (x.lo k)) / x.ho k := if_pos hq
        have hr : runS (x.ho k) (x.lo k) (x.hi k) = [(firstS (x.ho k) (x.lo k), 1), (x.ho k, (x.hi k - x.lo k - firstS (x.ho k) (x.lo k)) / x.ho k)] := if_pos hq
        have hd := Int.ediv_nonneg (show 0 ≤ x.hi k - x.lo k - firstS (x.ho k) (x.lo k) by omega) (show 0 ≤ x.ho k by omega)
        rw [hcap] at fc
        rw [hr]
        generalize (x.hi k - x.lo k - firstS (x.ho k) (x.lo k)) / x.ho k = q at *
        by_cases e0 : f k = 0
        · refine ⟨l ++ [((firstS (x.ho k) (x.lo k), 1), 0), ((x.ho k, q), 0)], by simp [e], fun t ht => ?_, ?_, ?_⟩
          · rcases List.mem_append.1 ht with ht | ht
            · exact ok t ht
            · simp at ht
              rcases ht with rfl | rfl
              · exact ⟨by simp, by simp⟩
              · exact ⟨by simp, hd⟩
          · rw [(totT_append _ _).1]; simp [totT]; omega
          · rw [(totT_append _ _).2, e0]; unfold coC; rw [cost_zero]; unfold coC at h2; simp [cstT]; omega
        · refine ⟨l ++ [((firstS (x.ho k) (x.lo k), 1), 1), ((x.ho k, q), f k - 1)], by simp [e], fun t ht => ?_, ?_, ?_⟩
          · rcases List.mem_append.1 ht with ht | ht
            · exact ok t ht
            · simp at ht
              rcases ht with rfl | rfl
              · exact ⟨by simp, by simp⟩
              · exact ⟨by simp only; omega, by simp only; omega⟩
          · rw [(totT_append _ _).1]; simp [totT]; omega
          · rw [(totT_append _ _).2]; unfold coC; rw [cost_pos (by omega)]; unfold coC at h2; simp [cstT]; omega
      · have hcap : capS (x.ho k) (x.lo k) (x.hi k) = 0 := if_neg hq
        have hr : runS (x.ho k) (x.lo k) (x.hi k) = [] := if_neg hq
        rw [hr]
        exact hzero (by omega)
    · rename_i hb
      rw [if_neg hb]
      exact hzero (by omega)
/-- Marks of the runs, as steps at each spot, which cost no more. -/
theorem steps_of {x : Prk} (hx : PrkOk x) {S : Nat} : ∀ k, k ≤ x.n → ∀ l : List Tri, l.map (·.1) = runsL x S k → OkT l → ∃ e : Nat → Int, (∀ i, i < k → 0 ≤ e i ∧ e i ≤ capC x S i) ∧ sumN e k = totT l ∧ sumN (fun i => coC x i (e i)) k ≤ cstT l
  | 0, _, l, e, _ => by
    obtain rfl : l = [] := by simpa [runsL] using e
    exact ⟨fun _ => 0, fun i h => (by omega), rfl, Int.le_refl _⟩
  | k + 1, hk, l, e, ok => by
    simp only [runsL] at e
    obtain ⟨l1, l2, rfl, e1, e2⟩ := List.map_eq_append_iff.1 e
    obtain ⟨s, h1, h2, h3⟩ := steps_of hx k (by omega) l1 e1 (fun t ht => ok t (by simp [ht]))
    have hh := hx.hold k (by omega)
    have key : ∃ v : Int, (0 ≤ v ∧ v ≤ capC x S k) ∧ v = totT l2 ∧ coC x k v ≤ cstT l2 := by
      unfold capC coC
      have hzero : l2 = [] → (0 : Int) = totT l2 ∧ costS (x.ho k) (x.lo k) 0 ≤ cstT l2 := fun h => by subst h; rw [cost_zero]; exact ⟨rfl, Int.le_refl _⟩
      by_cases hb : S.testBit k = true
      · rw [if_pos hb] at e2 ⊢
        by_cases hq : firstS (x.ho k) (x.lo k) ≤ x.hi k - x.lo k
        · have hcap : capS (x.ho k) (x.lo k) (x.hi k) = 1 + (x.hi k - x.lo k - firstS (x.ho k) (x.lo k)) / x.ho k := if_pos hq
          have hr : runS (x.ho k) (x.lo k) (x.hi k) = [(firstS (x.ho k) (x.lo k), 1), (x.ho k, (x.hi k - x.lo k - firstS (x.ho k) (x.lo k)) / x.ho k)] := if_pos hq
          rw [hr] at e2
          rw [hcap]
          generalize (x.hi k - x.lo k - firstS (x.ho k) (x.lo k)) / x.ho k = q at *
          obtain ⟨t, u, hl2, et, eu⟩ : ∃ t u : Tri, l2 = [t, u] ∧ t.1 = (firstS (x.ho k) (x.lo k), 1) ∧ u.1 = (x.ho k, q) := by
            match l2, e2 with
            | [], e2 => simp at e2
            | [t], e2 => simp at e2
            | [t, u], e2 => simp only [List.map_cons, List.map_nil, List.cons.injEq, and_true] at e2; exact ⟨t, u, rfl, e2.1, e2.2⟩
            | t :: u :: v :: l, e2 => simp at e2
          subst hl2
          · skip
            obtain ⟨t0, t1⟩ := ok t (by simp)
            obtain ⟨u0, u1⟩ := ok u (by simp)
            rw [et] at t1
            rw [eu] at u1
            simp only at t1 u1
            refine ⟨t.2 + u.2, ⟨by omega, by omega⟩, by simp [totT], ?_⟩
            simp only [cstT, et, eu]
            have hf := first_bd (h := x.ho k) (lo := x.lo k) hh.1
            by_cases h0 : t.2 + u.2 ≤ 0
            · rw [show t.2 + u.2 = 0 by omega, cost_zero]
              rw [show t.2 = 0 by omega, show u.2 = 0 by omega]
              simp
            · rw [cost_pos (by omega)]
              by_cases ht : t.2 = 0
              · rw [ht]
                have e3 : (0 + u.2 - 1) * x.ho k = u.2 * x.ho k - x.ho k := by rw [Int.zero_add, Int.sub_mul, Int.one_mul]
                omega
              · obtain e4 : t.2 = 1 := by omega
                rw [e4]
                have e3 : (1 + u.2 - 1) * x.ho k = u.2 * x.ho k := by congr 1; omega
                omega
        · have hcap : capS (x.ho k) (x.lo k) (x.hi k) = 0 := if_neg hq
          have hr : runS (x.ho k) (x.lo k) (x.hi k) = [] := if_neg hq
          rw [hr] at e2
          rw [hcap]
          exact ⟨0, by omega, hzero (by simpa using e2)⟩
      · rw [if_neg hb] at e2 ⊢
        exact ⟨0, by omega, hzero (by simpa using e2)⟩
    obtain ⟨v, hv1, hv2, hv3⟩ := key
    refine ⟨fun i => if i = k then v else s i, fun i hi => ?_, ?_, ?_⟩
    · by_cases ei : i = k
      · subst ei; simpa using hv1
      · simp only [ei, if_false]; exact h1 i (by omega)
    · simp only [sumN]
      rw [sumN_far s v (Nat.le_refl _), (totT_append _ _).1]
      simp
      omega
    · simp only [sumN]
      rw [(totT_append _ _).2, sumN_congr (g := fun i => coC x i (s i)) fun i hi => by rw [if_neg (by omega)]]
      simp
      omega
/-- The need of a set, by its runs in order. -/
theorem need_greed {x : Prk} (hx : PrkOk x) {S : Nat} {l : List (Int × Int)} (hp : l.Perm (runsL x S x.n)) (hs : l.Pairwise fun a b => a.1 ≤ b.1) : IsNeed x S (baseC x S + greed l (x.ahi - sumN x.lo x.n)) := by
  have h0 : 0 ≤ x.ahi - sumN x.lo x.n := by have := hx.most; omega
  have hok : ∀ r ∈ l, 1 ≤ r.1 ∧ 0 ≤ r.2 := fun r hr => runsL_ok hx x.n (Nat.le_refl _) r (hp.mem_iff.1 hr)
  obtain ⟨t1, t2, t3, t4⟩ := taken_spec l _ h0 hok
  obtain ⟨r', e1, p1⟩ := perm_marks hp _ t1
  obtain ⟨e, h1, h2, h3⟩ := steps_of hx (S := S) x.n (Nat.le_refl _) r' e1 (okT_perm p1 t2)
  have q1 := totT_perm p1
  have et : greed l (x.ahi - sumN x.lo x.n) = sumN e x.n := by omega
  rw [et]
  refine need_of_steps hx h1 (by omega) fun f hf hc => ?_
  obtain ⟨m, m1, m2, m3, m4⟩ := marks_of hx (S := S) x.n (Nat.le_refl _) hf
  obtain ⟨m', n1, n2⟩ := perm_marks hp.symm _ m1
  have q2 := totT_perm n2
  have h4 := greed_max m' (x.ahi - sumN x.lo x.n) h0 (by rw [n1]; exact hs) (fun t ht => (hok t.1 (by rw [← n1]; exact List.mem_map.2 ⟨t, ht, rfl⟩)).1) (okT_perm n2 m2) (by omega)
  rw [n1] at h4
  omega
end Go.Proofs.Ytfebhofihioaoaa
