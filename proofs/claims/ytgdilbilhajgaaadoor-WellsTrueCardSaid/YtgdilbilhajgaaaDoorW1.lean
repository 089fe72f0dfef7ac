/- Mains: trees of numbers, and what can be (plain). -/
namespace Go.Proofs.YtgdilbilhajgaaaDoor
set_option linter.unusedVariables false
set_option linter.unusedSimpArgs false

def parW (m : List (Int × Int)) (i : Nat) : Int := (m.getD i (0, 0)).1
def limW (m : List (Int × Int)) (i : Nat) : Int := (m.getD i (0, 0)).2
/-- Mains are valid. -/
structure MOk (m : List (Int × Int)) : Prop where
  pos : 1 ≤ m.length
  le : m.length ≤ 16
  root : parW m 0 = -1
  par : ∀ i, 0 < i → i < m.length → 0 ≤ parW m i ∧ parW m i ≤ (i : Int) - 1
  lim : ∀ i, i < m.length → 0 ≤ limW m i ∧ limW m i ≤ 1600
/-- The mains that flow into one, rising. -/
def kids (m : List (Int × Int)) (i : Nat) : List Nat := (List.range m.length).filter fun k => decide (parW m k = (i : Int))
theorem mem_kids {m : List (Int × Int)} {i k : Nat} : k ∈ kids m i ↔ k < m.length ∧ parW m k = (i : Int) := by
  simp [kids]
theorem kids_nodup (m : List (Int × Int)) (i : Nat) : (kids m i).Nodup := List.nodup_range.filter _
theorem kids_gt {m : List (Int × Int)} (h : MOk m) {i k : Nat} (hk : k ∈ kids m i) : i < k := by
  obtain ⟨h1, h2⟩ := mem_kids.1 hk
  rcases Nat.eq_zero_or_pos k with rfl | h0
  · have := h.root; omega
  · have := h.par k h0 h1; omega
theorem kids_lt {m : List (Int × Int)} {i k : Nat} (hk : k ∈ kids m i) : k < m.length := (mem_kids.1 hk).1

def sumL (f : Nat → Int) : List Nat → Int
  | [] => 0
  | k :: r => f k + sumL f r
theorem sumL_congr {f g : Nat → Int} : ∀ {l : List Nat}, (∀ k ∈ l, f k = g k) → sumL f l = sumL g l
  | [], _ => rfl
  | k :: r, h => by
    simp only [sumL]
    rw [h k (by simp), sumL_congr (l := r) (fun j hj => h j (by simp [hj]))]
theorem sumL_le {f g : Nat → Int} : ∀ {l : List Nat}, (∀ k ∈ l, f k ≤ g k) → sumL f l ≤ sumL g l
  | [], _ => Int.le_refl _
  | k :: r, h => by
    simp only [sumL]
    have := h k (by simp)
    have := sumL_le (l := r) (fun j hj => h j (by simp [hj]))
    omega
theorem sumL_append (f : Nat → Int) : ∀ l r : List Nat, sumL f (l ++ r) = sumL f l + sumL f r
  | [], r => by simp [sumL]
  | k :: l, r => by simp only [List.cons_append, sumL, sumL_append f l r]; omega
theorem sumL_add (f g : Nat → Int) : ∀ l : List Nat, sumL (fun k => f k + g k) l = sumL f l + sumL g l
  | [] => rfl
  | k :: r => by simp only [sumL, sumL_add f g r]; omega
theorem sumL_zero : ∀ l : List Nat, sumL (fun _ => 0) l = 0
  | [] => rfl
  | k :: r => by simp only [sumL, sumL_zero r]; omega
theorem sumL_filter_add (f : Nat → Int) (p : Nat → Bool) : ∀ l : List Nat, sumL f l = sumL f (l.filter p) + sumL f (l.filter fun k => !p k)
  | [] => rfl
  | k :: r => by
    have := sumL_filter_add f p r
    cases h : p k <;> simp [sumL, List.filter_cons, h] <;> omega
theorem filter_eq_one {l : List Nat} (hn : l.Nodup) {x : Nat} (hx : x ∈ l) : l.filter (fun k => k == x) = [x] := by
  induction l with
  | nil => cases hx
  | cons k r ih =>
    obtain ⟨h1, h2⟩ := List.nodup_cons.1 hn
    rcases List.mem_cons.1 hx with h | h
    · subst h
      simp only [List.filter_cons, beq_self_eq_true, if_true, List.cons.injEq, true_and]
      refine List.filter_eq_nil_iff.2 fun j hj => ?_
      have : j ≠ x := fun e => h1 (e ▸ hj)
      simpa using this
    · have : k ≠ x := fun e => h1 (e ▸ h)
      simp only [List.filter_cons, show (k == x) = false by simpa using this, Bool.false_eq_true, if_false]
      exact ih h2 h
/-- One of a list, and the others. -/
theorem sumL_one (f : Nat → Int) {l : List Nat} (hn : l.Nodup) {x : Nat} (hx : x ∈ l) : sumL f l = f x + sumL f (l.filter fun k => k != x) := by
  rw [sumL_filter_add f (fun k => k == x) l, filter_eq_one hn hx]
  simp only [sumL]
  have : (fun k => !(k == x)) = (fun k => k != x) := rfl
  rw [this]
  omega

/-- A number between the sums of lower and of upper ends is a sum of numbers between them. -/
theorem split_sum {lo hi : Nat → Int} : ∀ {l : List Nat}, l.Nodup → (∀ k ∈ l, lo k ≤ hi k) → ∀ T : Int, sumL lo l ≤ T → T ≤ sumL hi l → ∃ y : Nat → Int, (∀ k ∈ l, lo k ≤ y k ∧ y k ≤ hi k) ∧ sumL y l = T
  | [], _, _, T, h1, h2 => ⟨fun _ => 0, fun _ h => (by cases h), (by simp only [sumL] at *; omega)⟩
  | k :: r, hn, hne, T, h1, h2 => by
    obtain ⟨hk, hr⟩ := List.nodup_cons.1 hn
    have hle := sumL_le (l := r) (f := lo) (g := hi) (fun j hj => hne j (by simp [hj]))
    have hk0 := hne k (by simp)
    simp only [sumL] at h1 h2
    obtain ⟨y, hy, hs⟩ := split_sum (l := r) hr (fun j hj => hne j (by simp [hj])) (T - max (lo k) (T - sumL hi r)) (by omega) (by omega)
    refine ⟨fun j => if j = k then max (lo k) (T - sumL hi r) else y j, fun j hj => ?_, ?_⟩
    · by_cases e : j = k
      · subst e
        simp only [if_true]
        omega
      · simp only [e, if_false]
        rcases List.mem_cons.1 hj with h | h
        · exact absurd h e
        · exact hy j h
    · have e : sumL (fun j => if j = k then max (lo k) (T - sumL hi r) else y j) r = sumL y r := sumL_congr fun j hj => if_neg (fun e => hk (by rw [← e]; exact hj))
      simp only [sumL, if_true, e, hs]
      omega

/-- From a choice at the mains ahead of p to one at all mains. -/
theorem fill {m : List (Int × Int)} (hm : MOk m) {α : Type} (ok : Nat → α → Prop) (J : Nat → α → (Nat → α) → Prop) (hJ : ∀ i v y y', (∀ k ∈ kids m i, y k = y' k) → J i v y → J i v y')
    (hs : ∀ i, i < m.length → ∀ v, ok i v → ∃ y, (∀ k ∈ kids m i, ok k (y k)) ∧ J i v y) :
    ∀ (g p : Nat), p + g = m.length → ∀ x : Nat → α, (∀ i, i < m.length → ok i (x i)) → (∀ i, i < p → J i (x i) x) →
      ∃ x' : Nat → α, (∀ i, i < m.length → ok i (x' i)) ∧ (∀ i, i < m.length → J i (x' i) x') ∧ ∀ j, (j = 0 ∨ parW m j < p) → x' j = x j
  | 0, p, hp, x, hx, hj => ⟨x, hx, fun i hi => hj i (by omega), fun _ _ => rfl⟩
  | g + 1, p, hp, x, hx, hj => by
    obtain ⟨y, hy, hyJ⟩ := hs p (by omega) (x p) (hx p (by omega))
    have hpar : ∀ j, j ≤ p → parW m j ≠ (p : Int) := fun j hjp e => by
      rcases Nat.eq_zero_or_pos j with rfl | h0
      · have := hm.root; omega
      · have := hm.par j h0 (by omega); omega
    obtain ⟨x', h1, h2, h3⟩ := fill hm ok J hJ hs g (p + 1) (by omega) (fun j => if parW m j = (p : Int) then y j else x j)
      (fun i hi => by
        by_cases e : parW m i = (p : Int)
        · simp only [e, if_true]; exact hy i (mem_kids.2 ⟨hi, e⟩)
        · simp only [e, if_false]; exact hx i hi)
      (fun i hi => by
        simp only [hpar i (by omega), if_false]
        by_cases e : i = p
        · subst e
          exact hJ _ _ _ _ (fun k hk => by rw [if_pos (mem_kids.1 hk).2]) hyJ
        · exact hJ _ _ _ _ (fun k hk => by rw [if_neg (by have := (mem_kids.1 hk).2; omega)]) (hj i (by omega)))
    refine ⟨x', h1, h2, fun j hj' => ?_⟩
    rw [h3 j (by rcases hj' with h | h; exact .inl h; exact .inr (by omega))]
    rcases hj' with h | h
    · subst h
      rw [if_neg (hpar 0 (by omega))]
    · rw [if_neg (by omega)]

/-! Readings and flows. -/
def andS (a b : Int × Int) : Int × Int := (max a.1 b.1, min a.2 b.2)
def toldW (l : List (Int × Int × Int)) (i : Nat) : Int × Int := l.foldl (fun s r => if r.1 = (i : Int) then andS s r.2 else s) (0, 1600)
/-- A flow that agrees with the readings. -/
def Feas (m : List (Int × Int)) (l : List (Int × Int × Int)) (x : Nat → Int) : Prop :=
  ∀ i, i < m.length → ((toldW l i).1 ≤ x i ∧ x i ≤ (toldW l i).2) ∧ (kids m i = [] → 0 ≤ x i ∧ x i ≤ 100) ∧ (kids m i ≠ [] → x i = sumL x (kids m i))
theorem told_fold (i : Nat) (n : Int) : ∀ (l : List (Int × Int × Int)) (s : Int × Int), ((l.foldl (fun s r => if r.1 = (i : Int) then andS s r.2 else s) s).1 ≤ n ∧ n ≤ (l.foldl (fun s r => if r.1 = (i : Int) then andS s r.2 else s) s).2) ↔
    (s.1 ≤ n ∧ n ≤ s.2) ∧ ∀ r ∈ l, r.1 = (i : Int) → r.2.1 ≤ n ∧ n ≤ r.2.2
  | [], s => by simp
  | r :: l, s => by
    rw [List.foldl_cons, told_fold i n l]
    by_cases e : r.1 = (i : Int)
    · simp only [e, if_true, List.mem_cons, forall_eq_or_imp, andS]
      constructor
      · rintro ⟨h1, h2⟩
        exact ⟨by omega, ⟨fun _ => by omega, h2⟩⟩
      · rintro ⟨h1, h2, h3⟩
        have := h2 trivial
        exact ⟨by omega, h3⟩
    · simp only [e, if_false, List.mem_cons, forall_eq_or_imp, false_imp_iff, true_and]
theorem mem_told {l : List (Int × Int × Int)} {i : Nat} {n : Int} : ((toldW l i).1 ≤ n ∧ n ≤ (toldW l i).2) ↔ (0 ≤ n ∧ n ≤ 1600) ∧ ∀ r ∈ l, r.1 = (i : Int) → r.2.1 ≤ n ∧ n ≤ r.2.2 := told_fold i n l _

def ownW (m : List (Int × Int)) (s : Nat → Int × Int) (i : Nat) : Int × Int := if kids m i = [] then (0, 100) else (sumL (fun k => (s k).1) (kids m i), sumL (fun k => (s k).2) (kids m i))
/-- The spans from above. -/
def UpS (m : List (Int × Int)) (l : List (Int × Int × Int)) (s : Nat → Int × Int) : Prop := ∀ i, i < m.length → s i = andS (toldW l i) (ownW m s i)
def sibs (m : List (Int × Int)) (x : Nat) : List Nat := (kids m (parW m x).toNat).filter fun k => k != x
/-- The spans when what is left by the others is known of the mains ahead. -/
def leftW (m : List (Int × Int)) (s d : Nat → Int × Int) (x : Nat) : Int × Int :=
  let cur := fun k => if k < x then d k else s k
  ((d (parW m x).toNat).1 - sumL (fun k => (cur k).2) (sibs m x), (d (parW m x).toNat).2 - sumL (fun k => (cur k).1) (sibs m x))
def DnS (m : List (Int × Int)) (s d : Nat → Int × Int) : Prop := d 0 = s 0 ∧ ∀ x, 0 < x → x < m.length → d x = andS (s x) (leftW m s d x)

section
variable {m : List (Int × Int)} {l : List (Int × Int × Int)} {s d : Nat → Int × Int}
theorem sound_up (hm : MOk m) (hu : UpS m l s) {x : Nat → Int} (hx : Feas m l x) : ∀ (g i : Nat), i < m.length → m.length ≤ i + g → (s i).1 ≤ x i ∧ x i ≤ (s i).2
  | 0, i, hi, hg => by omega
  | g + 1, i, hi, hg => by
    obtain ⟨h1, h2, h3⟩ := hx i hi
    rw [hu i hi]
    unfold ownW
    by_cases e : kids m i = []
    · have := h2 e
      simp only [e, if_true, andS]
      omega
    · simp only [e, if_false, andS]
      have h4 := h3 e
      have hk : ∀ k ∈ kids m i, (s k).1 ≤ x k ∧ x k ≤ (s k).2 := fun k hk => sound_up hm hu hx g k (kids_lt hk) (by have := kids_gt hm hk; omega)
      have a := sumL_le (l := kids m i) (fun k h => (hk k h).1)
      have b := sumL_le (l := kids m i) (fun k h => (hk k h).2)
      omega
theorem feas_in (hm : MOk m) (hu : UpS m l s) {x : Nat → Int} (hx : Feas m l x) {i : Nat} (hi : i < m.length) : (s i).1 ≤ x i ∧ x i ≤ (s i).2 := sound_up hm hu hx m.length i hi (by omega)

def Jsum (m : List (Int × Int)) (i : Nat) (v : Int) (y : Nat → Int) : Prop := kids m i ≠ [] → v = sumL y (kids m i)
theorem fill_span (hm : MOk m) (hu : UpS m l s) (hne : ∀ i, i < m.length → (s i).1 ≤ (s i).2) (p : Nat) (hp : p ≤ m.length) (x : Nat → Int) (hx : ∀ i, i < m.length → (s i).1 ≤ x i ∧ x i ≤ (s i).2) (hj : ∀ i, i < p → Jsum m i (x i) x) :
    ∃ x', Feas m l x' ∧ ∀ j, (j = 0 ∨ parW m j < p) → x' j = x j := by
  obtain ⟨x', h1, h2, h3⟩ := fill hm (fun i v => i < m.length → (s i).1 ≤ v ∧ v ≤ (s i).2) (Jsum m) (fun i v y y' h hJ hk => by rw [hJ hk]; exact sumL_congr h)
    (fun i hi v hv => by
      have hv := hv hi
      by_cases e : kids m i = []
      · exact ⟨fun _ => 0, fun k hk => (by rw [e] at hk; cases hk), fun h => absurd e h⟩
      · rw [hu i hi] at hv
        unfold ownW at hv
        simp only [e, if_false, andS] at hv
        obtain ⟨y, hy, hs⟩ := split_sum (lo := fun k => (s k).1) (hi := fun k => (s k).2) (kids_nodup m i) (fun k hk => hne k (kids_lt hk)) v (by omega) (by omega)
        exact ⟨y, fun k hk _ => hy k hk, fun _ => hs.symm⟩)
    (m.length - p) p (by omega) x (fun i hi _ => hx i hi) hj
  refine ⟨x', fun i hi => ?_, h3⟩
  have hv := h1 i hi hi
  rw [hu i hi] at hv
  unfold ownW at hv
  by_cases e : kids m i = []
  · simp only [e, if_true, andS] at hv
    exact ⟨by omega, fun _ => by omega, fun h => absurd e h⟩
  · simp only [e, if_false, andS] at hv
    exact ⟨by omega, fun h => absurd h e, fun _ => h2 i hi e⟩
theorem feas_of_up (hm : MOk m) (hu : UpS m l s) (hne : ∀ i, i < m.length → (s i).1 ≤ (s i).2) : ∃ x, Feas m l x := by
  obtain ⟨x, hx, _⟩ := fill_span hm hu hne 0 (by omega) (fun i => (s i).1) (fun i hi => ⟨Int.le_refl _, hne i hi⟩) (fun i hi => by omega)
  exact ⟨x, hx⟩

theorem par_nat (hm : MOk m) {x : Nat} (h0 : 0 < x) (hx : x < m.length) : ((parW m x).toNat : Int) = parW m x ∧ (parW m x).toNat < x ∧ x ∈ kids m (parW m x).toNat := by
  have h := hm.par x h0 hx
  refine ⟨by omega, by omega, mem_kids.2 ⟨hx, by omega⟩⟩
theorem mem_sibs {x k : Nat} : k ∈ sibs m x ↔ k ∈ kids m (parW m x).toNat ∧ k ≠ x := by simp [sibs]

theorem sound_dn (hm : MOk m) (hu : UpS m l s) (hd : DnS m s d) {x : Nat → Int} (hx : Feas m l x) (i : Nat) : i < m.length → (d i).1 ≤ x i ∧ x i ≤ (d i).2 := by
  induction i using Nat.strongRecOn with
  | _ i ih =>
    intro hi
    rcases Nat.eq_zero_or_pos i with rfl | h0
    · rw [hd.1]; exact feas_in hm hu hx hi
    · obtain ⟨e1, e2, e3⟩ := par_nat hm h0 hi
      have hp := ih _ e2 (by omega)
      have hs := feas_in hm hu hx hi
      have hne : kids m (parW m i).toNat ≠ [] := fun e => by rw [e] at e3; cases e3
      have hsum := (hx _ (by omega)).2.2 hne
      rw [sumL_one x (kids_nodup _ _) e3] at hsum
      have hk : ∀ k ∈ sibs m i, ((if k < i then d k else s k).1 ≤ x k ∧ x k ≤ (if k < i then d k else s k).2) := fun k hk => by
        have hkl := kids_lt (mem_sibs.1 hk).1
        by_cases e : k < i
        · simp only [e, if_true]; exact ih k e hkl
        · simp only [e, if_false]; exact feas_in hm hu hx hkl
      have a := sumL_le (l := sibs m i) (fun k h => (hk k h).1)
      have b := sumL_le (l := sibs m i) (fun k h => (hk k h).2)
      rw [hd.2 i h0 hi]
      simp only [leftW, andS]
      unfold sibs at a b ⊢
      omega

theorem attain (hm : MOk m) (hu : UpS m l s) (hne : ∀ i, i < m.length → (s i).1 ≤ (s i).2) (hd : DnS m s d) (i : Nat) : i < m.length → ∀ v, (d i).1 ≤ v → v ≤ (d i).2 → ∃ x, Feas m l x ∧ x i = v := by
  have hned : ∀ k, k < m.length → (d k).1 ≤ (d k).2 := fun k hk => by
    obtain ⟨x, hx⟩ := feas_of_up hm hu hne
    have := sound_dn hm hu hd hx k hk
    omega
  induction i using Nat.strongRecOn with
  | _ i ih =>
    intro hi v hv1 hv2
    rcases Nat.eq_zero_or_pos i with rfl | h0
    · rw [hd.1] at hv1 hv2
      obtain ⟨x, hx, he⟩ := fill_span hm hu hne 0 (by omega) (fun j => if j = 0 then v else (s j).1) (fun j hj => by
        by_cases e : j = 0
        · subst e; simp only [if_true]; omega
        · simp only [e, if_false]; exact ⟨Int.le_refl _, hne j hj⟩) (fun j hj => by omega)
      exact ⟨x, hx, by rw [he 0 (.inl rfl)]; rfl⟩
    · obtain ⟨e1, e2, e3⟩ := par_nat hm h0 hi
      have hv := hd.2 i h0 hi
      simp only [leftW, andS] at hv
      rw [hv] at hv1 hv2
      have hcur : ∀ k ∈ sibs m i, (if k < i then d k else s k).1 ≤ (if k < i then d k else s k).2 := fun k hk => by
        have hkl := kids_lt (mem_sibs.1 hk).1
        by_cases e : k < i
        · simp only [e, if_true]; exact hned k hkl
        · simp only [e, if_false]; exact hne k hkl
      have hle := sumL_le hcur
      have hpn := hned (parW m i).toNat (by omega)
      have hsn : (sibs m i).Nodup := (kids_nodup _ _).filter _
      simp only at hv1 hv2
      obtain ⟨y, hy, hys⟩ := split_sum hsn hcur (max (sumL (fun k => (if k < i then d k else s k).1) (sibs m i)) ((d (parW m i).toNat).1 - v)) (by omega) (by omega)
      obtain ⟨x, hx, hxp⟩ := ih _ e2 (by omega) (v + sumL y (sibs m i)) (by omega) (by omega)
      have hdk : ∀ k, k < m.length → (s k).1 ≤ (d k).1 ∧ (d k).2 ≤ (s k).2 := fun k hk => by
        rcases Nat.eq_zero_or_pos k with rfl | hk0
        · rw [hd.1]; omega
        · rw [hd.2 k hk0 hk]; simp only [andS]; omega
      have hnp : ∀ j, j ≤ (parW m i).toNat → parW m j ≠ parW m i := fun j hj e => by
        rcases Nat.eq_zero_or_pos j with rfl | hj0
        · have := hm.root; omega
        · have := hm.par j hj0 (by omega); omega
      obtain ⟨x', h1, h2⟩ := fill_span hm hu hne ((parW m i).toNat + 1) (by omega) (fun j => if parW m j = parW m i then (if j = i then v else y j) else x j)
        (fun j hj => by
          by_cases e : parW m j = parW m i
          · simp only [e, if_true]
            by_cases ej : j = i
            · subst ej; simp only [if_true]; omega
            · simp only [ej, if_false]
              have hjs : j ∈ sibs m i := mem_sibs.2 ⟨mem_kids.2 ⟨hj, by omega⟩, ej⟩
              have h3 := hy j hjs
              by_cases ek : j < i
              · simp only [ek, if_true] at h3; have := hdk j hj; omega
              · simp only [ek, if_false] at h3; exact h3
          · simp only [e, if_false]; exact feas_in hm hu hx hj)
        (fun j hj hkj => by
          have hj' : j < m.length := by omega
          simp only [hnp j (by omega), if_false]
          by_cases e : j = (parW m i).toNat
          · subst e
            rw [hxp, sumL_one _ (kids_nodup _ _) e3]
            simp only [if_true]
            congr 1
            refine sumL_congr fun k hk => ?_
            obtain ⟨hk1, hk2⟩ := mem_sibs.1 hk
            have := (mem_kids.1 hk1).2
            rw [if_pos (by omega), if_neg hk2]
          · rw [(hx j hj').2.2 hkj]
            exact sumL_congr fun k hk => by rw [if_neg (by have := (mem_kids.1 hk).2; omega)])
      refine ⟨x', h1, ?_⟩
      rw [h2 i (.inr (by omega))]
      simp

/-- The spans are just what the mains have in the flows that agree; and there is such a flow. -/
structure IsSpans (m : List (Int × Int)) (l : List (Int × Int × Int)) (d : Nat → Int × Int) : Prop where
  some : ∃ x, Feas m l x
  sound : ∀ x, Feas m l x → ∀ i, i < m.length → (d i).1 ≤ x i ∧ x i ≤ (d i).2
  full : ∀ i, i < m.length → ∀ v, (d i).1 ≤ v → v ≤ (d i).2 → ∃ x, Feas m l x ∧ x i = v
theorem isSpans (hm : MOk m) (hu : UpS m l s) (hne : ∀ i, i < m.length → (s i).1 ≤ (s i).2) (hd : DnS m s d) : IsSpans m l d :=
  ⟨feas_of_up hm hu hne, fun _ hx => sound_dn hm hu hd hx, attain hm hu hne hd⟩
theorem wrong_of_up (hm : MOk m) (hu : UpS m l s) {i : Nat} (hi : i < m.length) (he : (s i).2 < (s i).1) : ¬ ∃ x, Feas m l x := fun ⟨x, hx⟩ => by
  have := feas_in hm hu hx hi
  omega
theorem IsSpans.le {i : Nat} (h : IsSpans m l d) (hi : i < m.length) : (d i).1 ≤ (d i).2 := by
  obtain ⟨x, hx⟩ := h.some
  have := h.sound x hx i hi
  omega
theorem IsSpans.eq {d' : Nat → Int × Int} (h : IsSpans m l d) (h' : IsSpans m l d') {i : Nat} (hi : i < m.length) : d i = d' i := by
  have h1 := h.le hi
  have h2 := h'.le hi
  obtain ⟨a, ha, ea⟩ := h.full i hi _ (Int.le_refl _) h1
  obtain ⟨b, hb, eb⟩ := h.full i hi _ h1 (Int.le_refl _)
  obtain ⟨a', ha', ea'⟩ := h'.full i hi _ (Int.le_refl _) h2
  obtain ⟨b', hb', eb'⟩ := h'.full i hi _ h2 (Int.le_refl _)
  have p1 := h'.sound a ha i hi
  have p2 := h'.sound b hb i hi
  have p3 := h.sound a' ha' i hi
  have p4 := h.sound b' hb' i hi
  exact Prod.ext (by omega) (by omega)
end
end Go.Proofs.YtgdilbilhajgaaaDoor
