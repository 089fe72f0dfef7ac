/- Crowd, plain: with room for all just those see who can come in time by the quickest trails. -/
import Derived.Test.YtomfnldlnoiloaaDoorV4
namespace Go.Proofs.YtomfnldlnoiloaaDoor
set_option linter.unusedVariables false
set_option linter.unusedSimpArgs false

abbrev Trl := Int × Int × Int × Int
/-- A trail makes its first place no farther than its second one, and the way between. -/
def relax (f : Nat → Nat) (x : Trl) : Nat → Nat := fun q => if q = x.1.toNat then min (f q) (f x.2.1.toNat + x.2.2.1.toNat) else f q
def passT (l : List Trl) (f : Nat → Nat) : Nat → Nat := l.foldl relax f
def soon0 (p : Nat) : Nat → Nat := fun q => if q = p then 0 else 1000
def passes (v : Vis) (p : Nat) : Nat → Nat → Nat
  | 0 => soon0 p
  | k + 1 => passT v.tr (passes v p k)
/-- How soon one can come from each place. -/
def soonV (v : Vis) (p : Nat) : Nat → Nat := passes v p v.n
def peopleV (v : Vis) : Int := lsum (v.ar.map fun a => a.2.2)
def canV (v : Vis) (p m : Nat) : Int := lsum (v.ar.map fun a => if a.1.toNat + soonV v p a.2.1.toNat ≤ m then a.2.2 else 0)
theorem relax_le (f : Nat → Nat) (x : Trl) (q : Nat) : relax f x q ≤ f q := by
  unfold relax
  split <;> omega
theorem relax_at (f : Nat → Nat) (x : Trl) : relax f x x.1.toNat ≤ f x.2.1.toNat + x.2.2.1.toNat := by
  unfold relax
  rw [if_pos rfl]
  omega
theorem pass_le : ∀ (l : List Trl) (f : Nat → Nat) (q : Nat), passT l f q ≤ f q
  | [], f, q => Nat.le_refl _
  | x :: l, f, q => Nat.le_trans (pass_le l (relax f x) q) (relax_le f x q)
theorem pass_at : ∀ (l : List Trl) (f : Nat → Nat) (x : Trl), x ∈ l → passT l f x.1.toNat ≤ f x.2.1.toNat + x.2.2.1.toNat
  | y :: l, f, x, h => by
    show passT l (relax f y) x.1.toNat ≤ _
    rcases List.mem_cons.1 h with h | h
    · subst h
      exact Nat.le_trans (pass_le l _ _) (relax_at f x)
    · have := pass_at l (relax f y) x h
      have := relax_le f y x.2.1.toNat
      omega
theorem pass_ge {D : Nat → Nat} : ∀ (l : List Trl) (f : Nat → Nat), (∀ x, x ∈ l → D x.1.toNat ≤ D x.2.1.toNat + x.2.2.1.toNat) → (∀ q, D q ≤ f q) → ∀ q, D q ≤ passT l f q
  | [], f, _, h => h
  | x :: l, f, ht, h => by
    refine pass_ge l (relax f x) (fun y hy => ht y (by simp [hy])) fun q => ?_
    unfold relax
    split
    · rename_i e
      have := ht x (by simp)
      have := h q
      have := h x.2.1.toNat
      subst e
      omega
    · exact h q
/-- One pass that looks only at the values ahead of it. -/
def jacM (l : List Trl) (f : Nat → Nat) (q c : Nat) : Nat := l.foldl (fun c x => if x.1.toNat = q then min c (f x.2.1.toNat + x.2.2.1.toNat) else c) c
theorem jacM_cons (x : Trl) (l : List Trl) (f : Nat → Nat) (q c : Nat) : jacM (x :: l) f q c = jacM l f q (if x.1.toNat = q then min c (f x.2.1.toNat + x.2.2.1.toNat) else c) := rfl
theorem jacM_le : ∀ (l : List Trl) (f : Nat → Nat) (q c : Nat), jacM l f q c ≤ c
  | [], _, _, c => Nat.le_refl c
  | x :: l, f, q, c => by
    rw [jacM_cons]
    refine Nat.le_trans (jacM_le l f q _) ?_
    split <;> omega
theorem jacM_at : ∀ (l : List Trl) (f : Nat → Nat) (q c : Nat) (x : Trl), x ∈ l → x.1.toNat = q → jacM l f q c ≤ f x.2.1.toNat + x.2.2.1.toNat
  | y :: l, f, q, c, x, h, e => by
    rw [jacM_cons]
    rcases List.mem_cons.1 h with h | h
    · subst h
      rw [if_pos e]
      refine Nat.le_trans (jacM_le l f q _) ?_
      omega
    · exact jacM_at l f q _ x h e
theorem jacM_or : ∀ (l : List Trl) (f : Nat → Nat) (q c : Nat), jacM l f q c = c ∨ ∃ x, x ∈ l ∧ x.1.toNat = q ∧ jacM l f q c = f x.2.1.toNat + x.2.2.1.toNat
  | [], _, _, _ => .inl rfl
  | y :: l, f, q, c => by
    rw [jacM_cons]
    rcases jacM_or l f q (if y.1.toNat = q then min c (f y.2.1.toNat + y.2.2.1.toNat) else c) with h | ⟨x, h1, h2, h3⟩
    · rw [h]
      split
      · rename_i e
        rcases Nat.le_total c (f y.2.1.toNat + y.2.2.1.toNat) with h4 | h4
        · exact .inl (Nat.min_eq_left h4)
        · exact .inr ⟨y, by simp, e, Nat.min_eq_right h4⟩
      · exact .inl rfl
    · exact .inr ⟨x, by simp [h1], h2, h3⟩
def jac (v : Vis) (p : Nat) : Nat → Nat → Nat
  | 0 => soon0 p
  | k + 1 => fun q => jacM v.tr (jac v p k) q (jac v p k q)
theorem jac_le (v : Vis) (p k q : Nat) : jac v p (k + 1) q ≤ jac v p k q := jacM_le _ _ _ _
theorem jac_mono (v : Vis) (p q : Nat) {i j : Nat} (h : i ≤ j) : jac v p j q ≤ jac v p i q := by
  obtain ⟨d, rfl⟩ := Nat.le.dest h
  clear h
  induction d with
  | zero => exact Nat.le_refl _
  | succ d ih => exact Nat.le_trans (jac_le v p (i + d) q) ih
theorem jac_at {v : Vis} {p k : Nat} {x : Trl} (h : x ∈ v.tr) : jac v p (k + 1) x.1.toNat ≤ jac v p k x.2.1.toNat + x.2.2.1.toNat := jacM_at _ _ _ _ x h rfl
theorem jac_or (v : Vis) (p k q : Nat) : jac v p (k + 1) q = jac v p k q ∨ ∃ x, x ∈ v.tr ∧ x.1.toNat = q ∧ jac v p (k + 1) q = jac v p k x.2.1.toNat + x.2.2.1.toNat := jacM_or _ _ _ _
/-- What still comes nearer in pass k + 1 has k + 1 places behind it. -/
theorem jac_chain {v : Vis} (hv : VisOk v) {p : Nat} (hp : p < v.n) : ∀ (k q : Nat), q < v.n → jac v p (k + 1) q < jac v p k q →
    ∃ l : List Nat, l.length = k + 2 ∧ l.Nodup ∧ ∀ x, x ∈ l → x < v.n ∧ ∃ j, j ≤ k + 1 ∧ jac v p j x ≤ jac v p (k + 1) q := fun k => by
  induction k with
  | zero =>
    intro q hq h
    rcases jac_or v p 0 q with h1 | ⟨x, hx, hxq, h1⟩
    · omega
    · have h0 : ∀ y, jac v p 0 y = if y = p then 0 else 1000 := fun y => rfl
      have hqp : q ≠ p := fun e => by rw [h0 q, if_pos e] at h; omega
      have hxp : x.2.1.toNat = p := by
        refine Classical.byContradiction fun e => ?_
        have h2 := h0 x.2.1.toNat
        rw [if_neg e] at h2
        have h3 := h0 q
        rw [if_neg hqp] at h3
        omega
      refine ⟨[q, p], rfl, by simp [hqp], fun y hy => ?_⟩
      simp only [List.mem_cons, List.not_mem_nil, or_false] at hy
      rcases hy with rfl | rfl
      · exact ⟨hq, 1, by omega, Nat.le_refl _⟩
      · exact ⟨hp, 0, by omega, by rw [h0 y, if_pos rfl]; omega⟩
  | succ k ih =>
    intro q hq h
    rcases jac_or v p (k + 1) q with h1 | ⟨x, hx, hxq, h1⟩
    · omega
    · have hxn : x.2.1.toNat < v.n := by have := (hv.tr x hx).2.1; omega
      have h2 : jac v p (k + 1) x.2.1.toNat < jac v p k x.2.1.toNat := by
        refine Classical.byContradiction fun e => ?_
        have h3 := jac_le v p k x.2.1.toNat
        have h4 := jac_at (v := v) (p := p) (k := k) hx
        rw [hxq] at h4
        omega
      obtain ⟨l, hl, hn, hm⟩ := ih _ hxn h2
      refine ⟨q :: l, by simp [hl], List.nodup_cons.2 ⟨fun hql => ?_, hn⟩, fun y hy => ?_⟩
      · obtain ⟨_, j, hj, hjq⟩ := hm q hql
        have := jac_mono v p q hj
        omega
      · rcases List.mem_cons.1 hy with rfl | hy
        · exact ⟨hq, k + 1 + 1, by omega, Nat.le_refl _⟩
        · obtain ⟨h5, j, hj, hjq⟩ := hm y hy
          exact ⟨h5, j, by omega, by omega⟩
theorem jac_end {v : Vis} (hv : VisOk v) {p q : Nat} (hp : p < v.n) (hq : q < v.n) : jac v p v.n q = jac v p (v.n - 1) q := by
  have hn := hv.n
  have h1 := jac_le v p (v.n - 1) q
  rw [show v.n - 1 + 1 = v.n by omega] at h1
  refine Nat.le_antisymm h1 (Nat.not_lt.1 fun h => ?_)
  have h2 : jac v p (v.n - 1 + 1) q < jac v p (v.n - 1) q := by rw [show v.n - 1 + 1 = v.n by omega]; exact h
  obtain ⟨l, hl, hd, hm⟩ := jac_chain hv hp (v.n - 1) q hq h2
  have := len_nodup v.n l hd fun x hx => (hm x hx).1
  omega
theorem passes_le (v : Vis) (p : Nat) : ∀ k q, passes v p k q ≤ jac v p k q
  | 0, q => Nat.le_refl _
  | k + 1, q => by
    show passT v.tr (passes v p k) q ≤ _
    rcases jac_or v p k q with h | ⟨x, hx, hxq, h⟩
    · rw [h]
      exact Nat.le_trans (pass_le _ _ _) (passes_le v p k q)
    · rw [h]
      have h1 := pass_at v.tr (passes v p k) x hx
      have h2 := passes_le v p k x.2.1.toNat
      rw [hxq] at h1
      omega
/-- Behind all passes no trail makes it nearer. -/
theorem soon_tri {v : Vis} (hv : VisOk v) {p : Nat} (hp : p < v.n) {x : Trl} (hx : x ∈ v.tr) : soonV v p x.1.toNat ≤ soonV v p x.2.1.toNat + x.2.2.1.toNat := by
  have hn := hv.n
  have tri : ∀ y, y ∈ v.tr → jac v p (v.n - 1) y.1.toNat ≤ jac v p (v.n - 1) y.2.1.toNat + y.2.2.1.toNat := fun y hy => by
    have h1 : y.1.toNat < v.n := by have := (hv.tr y hy).1; omega
    rw [← jac_end hv hp h1]
    have := jac_at (v := v) (p := p) (k := v.n - 1) hy
    rw [show v.n - 1 + 1 = v.n by omega] at this
    exact this
  have ge : ∀ k q, jac v p (v.n - 1) q ≤ passes v p k q := fun k => by
    induction k with
    | zero => exact fun q => jac_mono v p q (Nat.zero_le _)
    | succ k ih => exact pass_ge v.tr _ tri ih
  have hxn : x.1.toNat < v.n := by have := (hv.tr x hx).1; omega
  have h1 := passes_le v p v.n x.1.toNat
  rw [jac_end hv hp hxn] at h1
  have h2 := ge v.n x.2.1.toNat
  have h3 := tri x hx
  unfold soonV
  omega
theorem passes_mono (v : Vis) (p q : Nat) : ∀ k, passes v p k q ≤ soon0 p q
  | 0 => Nat.le_refl _
  | k + 1 => Nat.le_trans (pass_le _ _ _) (passes_mono v p q k)
theorem soon_place (v : Vis) (p : Nat) : soonV v p p = 0 := by
  have := passes_mono v p p v.n
  unfold soon0 at this
  rw [if_pos rfl] at this
  unfold soonV
  omega
/-- Room for all to wait. -/
def losV (v : Vis) : Vis := ⟨v.rm.map fun _ => 1000, v.tr, v.ar⟩
/-- Room for all everywhere. -/
def allV (v : Vis) : Vis := ⟨v.rm.map fun _ => 1000, v.tr.map fun x => (x.1, x.2.1, x.2.2.1, 1000), v.ar⟩
theorem los_room {v : Vis} {q : Nat} (hq : q < v.n) : (losV v).room q = 1000 := by
  unfold Vis.room losV
  unfold Vis.n at hq
  simp [List.getD_eq_getElem?_getD, hq]
theorem all_room {v : Vis} {q : Nat} (hq : q < v.n) : (allV v).room q = 1000 := los_room hq
theorem los_n (v : Vis) : (losV v).n = v.n := by simp [losV, Vis.n]
theorem all_n (v : Vis) : (allV v).n = v.n := by simp [allV, Vis.n]
theorem los_ok {v : Vis} (hv : VisOk v) : VisOk (losV v) :=
  ⟨by rw [los_n]; exact hv.n, hv.tl, hv.al, fun q hq => (by rw [los_n] at hq; rw [los_room hq]; omega), by rw [los_n]; exact hv.tr, by rw [los_n]; exact hv.ar⟩
theorem all_ok {v : Vis} (hv : VisOk v) : VisOk (allV v) := by
  refine ⟨by rw [all_n]; exact hv.n, by unfold allV; rw [List.length_map]; exact hv.tl, hv.al, fun q hq => (by rw [all_n] at hq; rw [all_room hq]; omega), fun x hx => ?_, by rw [all_n]; exact hv.ar⟩
  rw [all_n]
  obtain ⟨y, hy, rfl⟩ := List.mem_map.1 hx
  have := hv.tr y hy
  dsimp only
  omega
theorem los_le {v : Vis} (hv : VisOk v) : VisLe v (losV v) :=
  ⟨los_n v, fun q hq => (by rw [los_room hq]; exact (hv.room q hq).2), fun _ _ => Int.le_refl _, fun _ _ _ => Int.le_refl _⟩
theorem widL_zero {S : Nat → Bool} : ∀ {L : List Arc3}, (∀ a, a ∈ L → crossA S a = 0) → widL S L = 0
  | [], _ => rfl
  | a :: L, h => by rw [widL_cons, h a (by simp), widL_zero fun b hb => h b (by simp [hb])]; rfl
theorem widL_one {S : Nat → Bool} : ∀ {L : List Arc3}, (∀ a, a ∈ L → 0 ≤ a.2.2) → ∀ a, a ∈ L → crossA S a ≤ widL S L ∧ 0 ≤ widL S L
  | b :: L, h, a, ha => by
    rw [widL_cons]
    have h0 : 0 ≤ widL S L := lsum_nn fun x hx => cross_nn S (h x (by simp [hx]))
    have h1 : 0 ≤ crossA S b := cross_nn S (h b (by simp))
    rcases List.mem_cons.1 ha with rfl | ha
    · omega
    · have := widL_one (S := S) (fun x hx => h x (by simp [hx])) a ha
      omega
theorem arrsA_eq {v : Vis} {S : Nat → Bool} {m : Nat} (hs : S (srcN v m) = true) : widL S (arrsA v m) = lsum (v.ar.map fun a => if a.1.toNat ≤ m then (if !S (nd v.n a.2.1.toNat a.1.toNat) then a.2.2 else 0) else 0) := widL_arrs S _ _ _ hs v.ar
/-- Waits and trails of a network. -/
def waysA (v : Vis) (m : Nat) : List Arc3 := (List.range (m + 1)).flatMap fun t => ((List.range v.n).flatMap fun q => if t < m then [waitA v t q] else []) ++ trailsA v m t
theorem netP_ways (v : Vis) (p m : Nat) (S : Nat → Bool) : widL S (netP v p m) = widL S (waysA v m) + widL S (arrsA v m) + crossA S (lastA v p m) := by
  unfold netP waysA
  rw [widL_app, widL_app]
  simp [widL, lsum]
theorem ways_mem {v : Vis} {m : Nat} {a : Arc3} (ha : a ∈ waysA v m) : (∃ t q, t < m ∧ q < v.n ∧ a = waitA v t q) ∨ ∃ t x, x ∈ v.tr ∧ t + x.2.2.1.toNat ≤ m ∧ a = (nd v.n x.1.toNat t, nd v.n x.2.1.toNat (t + x.2.2.1.toNat), x.2.2.2) := by
  unfold waysA at ha
  simp only [List.mem_append, List.mem_flatMap, List.mem_range] at ha
  obtain ⟨t, ht, ⟨q, hq, h⟩ | h⟩ := ha
  · split at h
    · rename_i hm
      exact .inl ⟨t, q, hm, hq, List.mem_singleton.1 h⟩
    · cases h
  · unfold trailsA at h
    obtain ⟨x, hx, h⟩ := List.mem_flatMap.1 h
    split at h
    · rename_i hm
      exact .inr ⟨t, x, hx, hm, List.mem_singleton.1 h⟩
    · cases h
theorem mem_ways {v : Vis} {m t q : Nat} (ht : t < m) (hq : q < v.n) : waitA v t q ∈ waysA v m := by
  unfold waysA
  simp only [List.mem_append, List.mem_flatMap, List.mem_range]
  exact ⟨t, by omega, .inl ⟨q, hq, by rw [if_pos ht]; simp⟩⟩
theorem mem_ways2 {v : Vis} {m t : Nat} {x : Trl} (hx : x ∈ v.tr) (ht : t + x.2.2.1.toNat ≤ m) : (nd v.n x.1.toNat t, nd v.n x.2.1.toNat (t + x.2.2.1.toNat), x.2.2.2) ∈ waysA v m := by
  unfold waysA
  simp only [List.mem_append, List.mem_flatMap, List.mem_range]
  refine ⟨t, by omega, .inr ?_⟩
  unfold trailsA
  exact List.mem_flatMap.2 ⟨x, hx, by rw [if_pos ht]; simp⟩
/-- No more see than come at all. -/
theorem most_people {v : Vis} (hv : VisOk v) {p m : Nat} (hp : p < v.n) {a : Int} {R : Nat → Bool} (h : MostIs v p m a R) : a ≤ peopleV v := by
  have h1 := (mostP hv).2 h
  have h2 := h1.least (fun x => x == srcN v m) (by simp) (by unfold snkN; simp)
  refine Int.le_trans h2 ?_
  have hs : (srcN v m == srcN v m) = true := by simp
  have hz : ∀ q t, q < v.n → t ≤ m → (nd v.n q t == srcN v m) = false := fun q t hq ht => by
    have := nd_lt (n := v.n) hq ht
    unfold srcN
    exact beq_eq_false_iff_ne.2 (by omega)
  rw [netP_ways, widL_zero (L := waysA v m) fun a ha => ?_, arrsA_eq (by simp)]
  · have hl : crossA (fun x => x == srcN v m) (lastA v p m) = 0 := by
      have e := hz p m hp (Nat.le_refl _)
      simp [crossA, lastA, e]
    rw [hl]
    unfold peopleV
    rw [Int.zero_add, Int.add_zero]
    refine lsum_map_le fun x hx => ?_
    have := (hv.ar x hx).2.2
    split
    · split <;> omega
    · omega
  · rcases ways_mem ha with ⟨t, q, ht, hq, rfl⟩ | ⟨t, x, hx, ht, rfl⟩
    · have e := hz q t hq (by omega)
      simp [crossA, waitA, e]
    · have := (hv.tr x hx).1
      have e := hz x.1.toNat t (by omega) (by omega)
      simp [crossA, e]
/-- No more see than can come in time, however much room there is. -/
theorem most_can {v : Vis} (hv : VisOk v) {p m : Nat} (hp : p < v.n) {f : Nat → Nat} (hf : ∀ x, x ∈ v.tr → f x.1.toNat ≤ f x.2.1.toNat + x.2.2.1.toNat) (hf0 : f p = 0) {a : Int} {R : Nat → Bool} (h : MostIs v p m a R) :
    a ≤ lsum (v.ar.map fun a => if a.1.toNat + f a.2.1.toNat ≤ m then a.2.2 else 0) := by
  have h1 := (mostP hv).2 h
  have h2 := h1.least (setOf v m fun q t => decide (m < t + f q)) (setOf_src _ _ _) (setOf_snk _ _ _)
  refine Int.le_trans h2 ?_
  rw [netP_ways, widL_zero (L := waysA v m) fun a ha => ?_, arrsA_eq (setOf_src _ _ _)]
  · have hl : crossA (setOf v m fun q t => decide (m < t + f q)) (lastA v p m) = 0 := by
      unfold crossA lastA
      dsimp only
      rw [setOf_nd _ hp (Nat.le_refl _), hf0]
      simp
    rw [hl, Int.zero_add, Int.add_zero]
    refine lsum_map_le fun x hx => ?_
    have h3 := hv.ar x hx
    by_cases e : x.1.toNat ≤ m
    · rw [if_pos e, setOf_nd _ (by omega) e]
      by_cases e2 : x.1.toNat + f x.2.1.toNat ≤ m
      · rw [if_pos e2]
        split <;> omega
      · rw [if_neg e2, decide_eq_true (by omega)]
        simp
    · rw [if_neg e, if_neg (by omega)]
      exact Int.le_refl _
  · rcases ways_mem ha with ⟨t, q, ht, hq, rfl⟩ | ⟨t, x, hx, ht, rfl⟩
    · unfold crossA waitA
      dsimp only
      rw [setOf_nd _ hq (by omega), setOf_nd _ hq (by omega)]
      by_cases e : m < t + f q
      · rw [decide_eq_true e, decide_eq_true (show m < t + 1 + f q by omega)]; rfl
      · rw [decide_eq_false e]; rfl
    · have h3 := hv.tr x hx
      have h4 := hf x hx
      unfold crossA
      dsimp only
      rw [setOf_nd _ (by omega) (by omega), setOf_nd _ (by omega) (by omega)]
      by_cases e : m < t + f x.1.toNat
      · rw [decide_eq_true e, decide_eq_true (show m < t + x.2.2.1.toNat + f x.2.1.toNat by omega)]; rfl
      · rw [decide_eq_false e]; rfl
/-- With room for all everywhere all see who can come in time. -/
theorem can_most {v : Vis} (hv : VisOk v) {p m : Nat} (hp : p < v.n) (hm : m < 1000) (hP : peopleV v ≤ 1000) {a : Int} {R : Nat → Bool} (h : MostIs (allV v) p m a R) : canV v p m ≤ a := by
  have hV := all_ok hv
  have hp' : p < (allV v).n := by rw [all_n]; exact hp
  have h1 := (mostP hV).2 h
  have hcP : canV v p m ≤ peopleV v := by
    unfold canV peopleV
    refine lsum_map_le fun x hx => ?_
    have := (hv.ar x hx).2.2
    split <;> omega
  have hnn : ∀ a, a ∈ netP (allV v) p m → 0 ≤ a.2.2 := fun a ha => (netP_mem hV hp' a ha).2.1
  rw [h1.width]
  by_cases hc : ∃ b, b ∈ netP (allV v) p m ∧ R b.1 = true ∧ R b.2.1 = false ∧ b.2.2 = 1000
  · obtain ⟨b, hb, r1, r2, r3⟩ := hc
    have := (widL_one (S := R) hnn b hb).1
    have e : crossA R b = 1000 := by unfold crossA; rw [r1, r2]; simpa using r3
    omega
  · have key : ∀ b, b ∈ netP (allV v) p m → b.2.2 = 1000 → R b.2.1 = false → R b.1 = false := fun b hb h3 h2 => by
      cases e : R b.1 with
      | false => rfl
      | true => exact absurd ⟨b, hb, e, h2, h3⟩ hc
    have hway : ∀ b, b ∈ waysA (allV v) m → b ∈ netP (allV v) p m := fun b hb => by
      unfold netP
      unfold waysA at hb
      simp only [List.mem_append]
      exact .inl (.inl hb)
    have hlast : R (nd v.n p m) = false := by
      have := key (lastA (allV v) p m) (by unfold netP; simp) (all_room hp) h1.sink
      unfold lastA at this
      rw [all_n] at this
      exact this
    have hwait : ∀ q t, q < v.n → t < m → R (nd v.n q (t + 1)) = false → R (nd v.n q t) = false := fun q t hq ht hr => by
      have := key (waitA (allV v) t q) (hway _ (mem_ways ht (by rw [all_n]; exact hq))) (all_room hq)
      unfold waitA at this
      rw [all_n] at this
      exact this hr
    have htrail : ∀ x t, x ∈ v.tr → t + x.2.2.1.toNat ≤ m → R (nd v.n x.2.1.toNat (t + x.2.2.1.toNat)) = false → R (nd v.n x.1.toNat t) = false := fun x t hx ht hr => by
      have hx' : (x.1, x.2.1, x.2.2.1, (1000 : Int)) ∈ (allV v).tr := List.mem_map.2 ⟨x, hx, rfl⟩
      have := key _ (hway _ (mem_ways2 (m := m) (t := t) hx' ht)) rfl
      rw [all_n] at this
      exact this hr
    have hplace : ∀ d t, t + d = m → R (nd v.n p t) = false := fun d => by
      induction d with
      | zero => intro t ht; rw [Nat.add_zero] at ht; subst ht; exact hlast
      | succ d ih => intro t ht; exact hwait p t hp (by omega) (ih (t + 1) (by omega))
    have hrel : ∀ (l : List Trl) (f : Nat → Nat), (∀ x, x ∈ l → x ∈ v.tr) → (∀ q t, q < v.n → t + f q ≤ m → R (nd v.n q t) = false) → ∀ q t, q < v.n → t + passT l f q ≤ m → R (nd v.n q t) = false := fun l => by
      induction l with
      | nil => exact fun f _ h => h
      | cons x l ih =>
        intro f hl hf
        refine ih (relax f x) (fun y hy => hl y (by simp [hy])) fun q t hq ht => ?_
        unfold relax at ht
        split at ht
        · rename_i e
          by_cases e2 : t + f q ≤ m
          · exact hf q t hq e2
          · have hx := hl x (by simp)
            have h3 := hv.tr x hx
            subst e
            exact htrail x t hx (by omega) (hf _ _ (by omega) (by omega))
        · exact hf q t hq ht
    have hpas : ∀ k q t, q < v.n → t + passes v p k q ≤ m → R (nd v.n q t) = false := fun k => by
      induction k with
      | zero =>
        intro q t hq ht
        unfold passes soon0 at ht
        by_cases e : q = p
        · subst e
          rw [if_pos rfl] at ht
          exact hplace (m - t) t (by omega)
        · rw [if_neg e] at ht; omega
      | succ k ih => exact hrel v.tr _ (fun _ hx => hx) ih
    rw [netP_ways, arrsA_eq h1.src]
    have hw : 0 ≤ widL R (waysA (allV v) m) := lsum_nn fun b hb => cross_nn R (hnn b (hway b hb))
    have hl : 0 ≤ crossA R (lastA (allV v) p m) := cross_nn R (hnn (lastA (allV v) p m) (by unfold netP; simp))
    have hsum : canV v p m ≤ lsum ((allV v).ar.map fun a => if a.1.toNat ≤ m then (if !R (nd (allV v).n a.2.1.toNat a.1.toNat) then a.2.2 else 0) else 0) := by
      unfold canV
      rw [all_n]
      refine lsum_map_le fun x hx => ?_
      have h3 := hv.ar x hx
      by_cases e : x.1.toNat + soonV v p x.2.1.toNat ≤ m
      · rw [if_pos e, if_pos (by omega), hpas v.n _ _ (by omega) e]
        simp
      · rw [if_neg e]
        split
        · split <;> omega
        · omega
    omega
/-- All that the law asks of the numbers. -/
theorem free_law {v : Vis} (hv : VisOk v) {p m : Nat} (hp : p < v.n) (hm : m < 1000) (hP : peopleV v ≤ 1000) {a b c : Int} {R R' R'' : Nat → Bool} (ha : MostIs v p m a R) (hb : MostIs (losV v) p m b R') (hc : MostIs (allV v) p m c R'') :
    a ≤ peopleV v ∧ a ≤ b ∧ b ≤ peopleV v ∧ c = canV v p m ∧ b ≤ canV v p m := by
  have hp1 : p < (losV v).n := by rw [los_n]; exact hp
  have hp2 : p < (allV v).n := by rw [all_n]; exact hp
  refine ⟨most_people hv hp ha, (los_le hv).most hp ha hb, most_people (los_ok hv) hp1 hb, Int.le_antisymm ?_ (can_most hv hp hm hP hc), ?_⟩
  · have := most_can (all_ok hv) hp2 (f := soonV v p) (fun x hx => ?_) (soon_place v p) hc
    · exact this
    · obtain ⟨y, hy, rfl⟩ := List.mem_map.1 hx
      have := soon_tri hv hp hy
      exact this
  · exact most_can (los_ok hv) hp1 (f := soonV v p) (fun x hx => soon_tri hv hp hx) (soon_place v p) hb
end Go.Proofs.YtomfnldlnoiloaaDoor
