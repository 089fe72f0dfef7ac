/- What is taken too much: what each main can have, and at which cost (plain). -/
import Derived.Test.YtgdilbilhajgaaaDoorW1
namespace Go.Proofs.YtgdilbilhajgaaaDoor
set_option linter.unusedVariables false
set_option linter.unusedSimpArgs false

/-- A main can have v, with c taken too much above it. -/
inductive Att (m : List (Int × Int)) (l : List (Int × Int × Int)) : Nat → Int → Int → Prop
  | well (i : Nat) (v : Int) : i < m.length → kids m i = [] → 0 ≤ v → v ≤ 100 → ((toldW l i).1 ≤ v ∧ v ≤ (toldW l i).2) → Att m l i v (max 0 (v - limW m i))
  | node (i : Nat) (y e : Nat → Int) : i < m.length → kids m i ≠ [] → (∀ k ∈ kids m i, Att m l k (y k) (e k)) → ((toldW l i).1 ≤ sumL y (kids m i) ∧ sumL y (kids m i) ≤ (toldW l i).2) → Att m l i (sumL y (kids m i)) (sumL e (kids m i))
/-- What is taken too much in a flow. -/
def wellOver (m : List (Int × Int)) (x : Nat → Int) (i : Nat) : Int := if kids m i = [] then max 0 (x i - limW m i) else 0
def totalW (m : List (Int × Int)) (x : Nat → Int) : Int := sumL (wellOver m x) (List.range m.length)
def IsExcess (m : List (Int × Int)) (l : List (Int × Int × Int)) (c : Int) : Prop := (∃ x, Feas m l x ∧ totalW m x = c) ∧ ∀ x, Feas m l x → c ≤ totalW m x
theorem IsExcess.eq {m : List (Int × Int)} {l : List (Int × Int × Int)} {c d : Int} (h : IsExcess m l c) (h' : IsExcess m l d) : c = d := by
  obtain ⟨⟨x, hx, ex⟩, h2⟩ := h
  obtain ⟨⟨y, hy, ey⟩, h3⟩ := h'
  have := h2 y hy
  have := h3 x hx
  omega

theorem exists_local {m : List (Int × Int)} (hm : MOk m) (base : Nat → Int) : ∃ e : Nat → Int, ∀ i, i < m.length → e i = if kids m i = [] then base i else sumL e (kids m i) := by
  have key : ∀ g, g ≤ m.length → ∃ e : Nat → Int, ∀ i, m.length ≤ i + g → i < m.length → e i = if kids m i = [] then base i else sumL e (kids m i) := by
    intro g
    induction g with
    | zero => exact fun _ => ⟨base, fun i h1 h2 => by omega⟩
    | succ g ih =>
      intro hg
      obtain ⟨e, he⟩ := ih (by omega)
      refine ⟨fun k => if k = m.length - (g + 1) then (if kids m k = [] then base k else sumL e (kids m k)) else e k, fun i h1 h2 => ?_⟩
      have hs : sumL (fun k => if k = m.length - (g + 1) then (if kids m k = [] then base k else sumL e (kids m k)) else e k) (kids m i) = sumL e (kids m i) :=
        sumL_congr fun k hk => by rw [if_neg (by have := kids_gt hm hk; omega)]
      rw [hs]
      by_cases ei : i = m.length - (g + 1)
      · simp only [ei, if_true]
      · simp only [ei, if_false]
        exact he i (by omega) h2
  obtain ⟨e, he⟩ := key m.length (Nat.le_refl _)
  exact ⟨e, fun i hi => he i (by omega) hi⟩

theorem sumL_filter (f : Nat → Int) (p : Nat → Bool) : ∀ l : List Nat, sumL f (l.filter p) = sumL (fun k => if p k then f k else 0) l
  | [] => rfl
  | k :: r => by
    have := sumL_filter f p r
    cases h : p k <;> simp [sumL, List.filter_cons, h, this]
theorem sumL_swap (g : Nat → Nat → Int) (A : List Nat) : ∀ B : List Nat, sumL (fun i => sumL (fun k => g i k) A) B = sumL (fun k => sumL (fun i => g i k) B) A
  | [] => by simp only [sumL]; rw [sumL_zero]
  | b :: B => by
    simp only [sumL]
    rw [sumL_swap g A B, ← sumL_add]
theorem sumL_pick (c : Int) (t : Nat) : ∀ n : Nat, sumL (fun i => if t = i then c else 0) (List.range n) = if t < n then c else 0
  | 0 => by simp [sumL]
  | n + 1 => by
    rw [List.range_succ, sumL_append, sumL_pick c t n]
    simp only [sumL]
    by_cases h1 : t < n
    · rw [if_pos h1, if_neg (by omega), if_pos (by omega)]; omega
    · rw [if_neg h1]
      by_cases h2 : t = n
      · rw [if_pos h2, if_pos (by omega)]; omega
      · rw [if_neg h2, if_neg (by omega)]; omega
theorem sumL_none (n : Nat) (f : Nat → Int) (h : ∀ i, i < n → f i = 0) : sumL f (List.range n) = 0 := by
  rw [sumL_congr (g := fun _ => 0) (fun k hk => h k (List.mem_range.1 hk)), sumL_zero]
theorem kids_sum {m : List (Int × Int)} (hm : MOk m) (e : Nat → Int) : sumL (fun i => sumL e (kids m i)) (List.range m.length) + e 0 = sumL e (List.range m.length) := by
  have h1 : sumL (fun i => sumL e (kids m i)) (List.range m.length) = sumL (fun k => if 0 = k then 0 else e k) (List.range m.length) := by
    have : ∀ i, sumL e (kids m i) = sumL (fun k => if parW m k = (i : Int) then e k else 0) (List.range m.length) := fun i => by
      unfold kids
      rw [sumL_filter]
      exact sumL_congr fun k _ => by simp
    rw [sumL_congr (fun i _ => this i), sumL_swap]
    refine sumL_congr fun k hk => ?_
    have hk' := List.mem_range.1 hk
    by_cases h0 : 0 = k
    · subst h0
      rw [if_pos rfl]
      exact sumL_none _ _ fun i hi => by rw [if_neg]; have := hm.root; omega
    · rw [if_neg h0]
      obtain ⟨e1, e2, _⟩ := par_nat hm (by omega) hk'
      rw [sumL_congr (g := fun i => if (parW m k).toNat = i then e k else 0) (fun i _ => by
        by_cases h : parW m k = (i : Int)
        · rw [if_pos h, if_pos (by omega)]
        · rw [if_neg h, if_neg (by omega)]), sumL_pick, if_pos (by omega)]
  rw [h1]
  have h2 : sumL e (List.range m.length) = sumL (fun k => (if 0 = k then 0 else e k) + (if 0 = k then e 0 else 0)) (List.range m.length) :=
    sumL_congr fun k _ => by
      by_cases h : 0 = k
      · subst h; simp
      · simp [h]
  rw [h2, sumL_add, sumL_pick, if_pos (by have := hm.pos; omega)]

section
variable {m : List (Int × Int)} {l : List (Int × Int × Int)}
theorem total_local (hm : MOk m) {x e : Nat → Int} (he : ∀ i, i < m.length → e i = if kids m i = [] then max 0 (x i - limW m i) else sumL e (kids m i)) : totalW m x = e 0 := by
  have h1 : sumL e (List.range m.length) = sumL (fun i => wellOver m x i + sumL e (kids m i)) (List.range m.length) := sumL_congr fun i hi => by
    rw [he i (List.mem_range.1 hi)]
    unfold wellOver
    by_cases h : kids m i = []
    · simp [h, sumL]
    · simp [h]
  rw [sumL_add] at h1
  have h2 := kids_sum hm e
  unfold totalW
  omega
theorem att_of_feas (hm : MOk m) {x e : Nat → Int} (hx : Feas m l x) (he : ∀ i, i < m.length → e i = if kids m i = [] then max 0 (x i - limW m i) else sumL e (kids m i)) : ∀ (g i : Nat), i < m.length → m.length ≤ i + g → Att m l i (x i) (e i)
  | 0, i, hi, hg => by omega
  | g + 1, i, hi, hg => by
    obtain ⟨h1, h2, h3⟩ := hx i hi
    rw [he i hi]
    by_cases h : kids m i = []
    · rw [if_pos h]
      exact .well i _ hi h (h2 h).1 (h2 h).2 h1
    · rw [if_neg h, h3 h]
      exact .node i x e hi h (fun k hk => att_of_feas hm hx he g k (kids_lt hk) (by have := kids_gt hm hk; omega)) (by rw [← h3 h]; exact h1)
theorem Att.inv {i : Nat} {v c : Int} (h : Att m l i v c) : i < m.length ∧ ((toldW l i).1 ≤ v ∧ v ≤ (toldW l i).2) ∧ (kids m i = [] → 0 ≤ v ∧ v ≤ 100 ∧ c = max 0 (v - limW m i)) ∧
    (kids m i ≠ [] → ∃ y e : Nat → Int, (∀ k ∈ kids m i, Att m l k (y k) (e k)) ∧ v = sumL y (kids m i) ∧ c = sumL e (kids m i)) := by
  cases h with
  | well _ _ h1 h2 h3 h4 h5 => exact ⟨h1, h5, fun _ => ⟨h3, h4, rfl⟩, fun h => absurd h2 h⟩
  | node _ y e h1 h2 h3 h4 => exact ⟨h1, h4, fun h => absurd h h2, fun _ => ⟨y, e, h3, rfl, rfl⟩⟩
theorem feas_of_att (hm : MOk m) {v c : Int} (h : Att m l 0 v c) : ∃ x, Feas m l x ∧ x 0 = v ∧ totalW m x = c := by
  by_cases hall : ∀ i, i < m.length → ∃ v c, Att m l i v c
  · have hx0 : ∃ x : Nat → Int × Int, ∀ i, i < m.length → Att m l i (x i).1 (x i).2 := by
      refine ⟨fun i => if h : i < m.length then (Classical.choose (hall i h), Classical.choose (Classical.choose_spec (hall i h))) else (0, 0), fun i hi => ?_⟩
      simp only [hi, dite_true]
      exact Classical.choose_spec (Classical.choose_spec (hall i hi))
    obtain ⟨x0, hx0⟩ := hx0
    obtain ⟨x, h1, h2, h3⟩ := fill hm (fun i (a : Int × Int) => Att m l i a.1 a.2) (fun i a y => kids m i ≠ [] → a.1 = sumL (fun k => (y k).1) (kids m i) ∧ a.2 = sumL (fun k => (y k).2) (kids m i))
      (fun i v y y' hy hJ hk => by
        obtain ⟨a, b⟩ := hJ hk
        exact ⟨a.trans (sumL_congr fun k hk => by rw [hy k hk]), b.trans (sumL_congr fun k hk => by rw [hy k hk])⟩)
      (fun i hi a ha => by
        by_cases hk : kids m i = []
        · exact ⟨fun _ => (0, 0), fun k h => (by rw [hk] at h; cases h), fun h => absurd hk h⟩
        · obtain ⟨y, e, h1, h2, h3⟩ := ha.inv.2.2.2 hk
          exact ⟨fun k => (y k, e k), h1, fun _ => ⟨h2, h3⟩⟩)
      m.length 0 (by omega) (fun i => if i = 0 then (v, c) else x0 i) (fun i hi => by
        by_cases e : i = 0
        · subst e; exact h
        · simp only [e, if_false]; exact hx0 i hi) (fun i hi => by omega)
    have hx : x 0 = (v, c) := by rw [h3 0 (.inl rfl)]; rfl
    refine ⟨fun i => (x i).1, fun i hi => ?_, by simp only [hx], ?_⟩
    · obtain ⟨a1, a2, a3, a4⟩ := (h1 i hi).inv
      exact ⟨a2, fun hk => ⟨(a3 hk).1, (a3 hk).2.1⟩, fun hk => (h2 i hi hk).1⟩
    · rw [total_local hm (e := fun i => (x i).2) (fun i hi => ?_)]
      · simp only [hx]
      · obtain ⟨a1, a2, a3, a4⟩ := (h1 i hi).inv
        by_cases hk : kids m i = []
        · rw [if_pos hk]; exact (a3 hk).2.2
        · rw [if_neg hk]; exact (h2 i hi hk).2
  · exfalso
    refine hall ?_
    have key : ∀ i, i < m.length → ∃ v c, Att m l i v c := by
      intro i
      induction i using Nat.strongRecOn with
      | _ i ih =>
        intro hi
        rcases Nat.eq_zero_or_pos i with rfl | h0
        · exact ⟨v, c, h⟩
        · obtain ⟨e1, e2, e3⟩ := par_nat hm h0 hi
          obtain ⟨v', c', h'⟩ := ih _ e2 (by omega)
          obtain ⟨y, e, h1, _⟩ := h'.inv.2.2.2 (fun e => by rw [e] at e3; cases e3)
          exact ⟨_, _, h1 i e3⟩
    exact key
theorem isExcess_of_att (hm : MOk m) {c : Int} (h1 : ∃ v, Att m l 0 v c) (h2 : ∀ v c', Att m l 0 v c' → c ≤ c') : IsExcess m l c := by
  obtain ⟨v, h⟩ := h1
  obtain ⟨x, hx, _, ht⟩ := feas_of_att hm h
  refine ⟨⟨x, hx, ht⟩, fun x hx => ?_⟩
  obtain ⟨e, he⟩ := exists_local hm (fun i => max 0 (x i - limW m i))
  rw [total_local hm he]
  exact h2 _ _ (att_of_feas hm hx he m.length 0 (by have := hm.pos; omega) (by omega))
theorem told_in {i : Nat} {v : Int} (h : (toldW l i).1 ≤ v ∧ v ≤ (toldW l i).2) : 0 ≤ v ∧ v ≤ 1600 := (mem_told.1 h).1
theorem Att.bd (hm : MOk m) {i : Nat} {v c : Int} (h : Att m l i v c) : 0 ≤ c ∧ c ≤ v ∧ 0 ≤ v ∧ v ≤ 1600 := by
  induction h with
  | well i v h1 h2 h3 h4 h5 => have := hm.lim i h1; have := told_in h5; omega
  | node i y e h1 h2 h3 h4 ih =>
    have a := sumL_le (l := kids m i) (f := fun _ => 0) (g := e) (fun k hk => (ih k hk).1)
    have b := sumL_le (l := kids m i) (f := e) (g := y) (fun k hk => (ih k hk).2.1)
    rw [sumL_zero] at a
    have := told_in h4
    omega
theorem att_some (hm : MOk m) {x : Nat → Int} (hx : Feas m l x) {i : Nat} (hi : i < m.length) : ∃ c, Att m l i (x i) c := by
  obtain ⟨e, he⟩ := exists_local hm (fun i => max 0 (x i - limW m i))
  exact ⟨_, att_of_feas hm hx he m.length i hi (by omega)⟩

/-- What some mains have together. -/
def PAtt (m : List (Int × Int)) (l : List (Int × Int × Int)) (ks : List Nat) (v c : Int) : Prop := ∃ y e : Nat → Int, (∀ k ∈ ks, Att m l k (y k) (e k)) ∧ v = sumL y ks ∧ c = sumL e ks
theorem patt_nil {v c : Int} : PAtt m l [] v c ↔ v = 0 ∧ c = 0 := ⟨fun ⟨_, _, _, h1, h2⟩ => ⟨h1, h2⟩, fun ⟨h1, h2⟩ => ⟨fun _ => 0, fun _ => 0, fun _ h => (by cases h), h1, h2⟩⟩
theorem patt_snoc {ks : List Nat} {k : Nat} (hk : k ∉ ks) {v c : Int} : PAtt m l (ks ++ [k]) v c ↔ ∃ v1 c1 v2 c2, PAtt m l ks v1 c1 ∧ Att m l k v2 c2 ∧ v = v1 + v2 ∧ c = c1 + c2 := by
  constructor
  · rintro ⟨y, e, h, rfl, rfl⟩
    refine ⟨sumL y ks, sumL e ks, y k, e k, ⟨y, e, fun j hj => h j (by simp [hj]), rfl, rfl⟩, h k (by simp), ?_, ?_⟩ <;> (rw [sumL_append]; simp [sumL])
  · rintro ⟨_, _, v2, c2, ⟨y, e, h, rfl, rfl⟩, h2, rfl, rfl⟩
    refine ⟨fun j => if j = k then v2 else y j, fun j => if j = k then c2 else e j, fun j hj => ?_, ?_, ?_⟩
    · by_cases ej : j = k
      · subst ej; simpa using h2
      · simp only [ej, if_false]
        exact h j (by simpa [ej] using hj)
    · have h3 : sumL (fun j => if j = k then v2 else y j) ks = sumL y ks := sumL_congr fun j hj => if_neg (fun (q : j = k) => hk (q ▸ hj))
      rw [sumL_append, h3]
      simp [sumL]
    · have h3 : sumL (fun j => if j = k then c2 else e j) ks = sumL e ks := sumL_congr fun j hj => if_neg (fun (q : j = k) => hk (q ▸ hj))
      rw [sumL_append, h3]
      simp [sumL]
theorem att_node {i : Nat} (hi : i < m.length) (hk : kids m i ≠ []) {v c : Int} : Att m l i v c ↔ PAtt m l (kids m i) v c ∧ ((toldW l i).1 ≤ v ∧ v ≤ (toldW l i).2) := by
  constructor
  · intro h
    exact ⟨h.inv.2.2.2 hk, h.inv.2.1⟩
  · rintro ⟨⟨y, e, h, rfl, rfl⟩, ht⟩
    exact .node i y e hi hk h ht
theorem att_well {i : Nat} (hi : i < m.length) (hk : kids m i = []) {v c : Int} : Att m l i v c ↔ (0 ≤ v ∧ v ≤ 100 ∧ c = max 0 (v - limW m i)) ∧ ((toldW l i).1 ≤ v ∧ v ≤ (toldW l i).2) := by
  constructor
  · intro h
    exact ⟨h.inv.2.2.1 hk, h.inv.2.1⟩
  · rintro ⟨⟨h1, h2, rfl⟩, ht⟩
    exact .well i v hi hk h1 h2 ht

/-- A list tells the least cost of each number from a first one on. -/
def BestP (P : Int → Int → Prop) (f : Int) (L : List Int) : Prop := (∀ v c, P v c → ∃ j, ∃ h : j < L.length, v = f + (j : Int) ∧ L[j] ≤ c) ∧ ∀ j (h : j < L.length), P (f + (j : Int)) L[j]
theorem BestP.iff {P Q : Int → Int → Prop} {f : Int} {L : List Int} (h : BestP P f L) (hPQ : ∀ v c, P v c ↔ Q v c) : BestP Q f L := ⟨fun v c hq => h.1 v c ((hPQ v c).2 hq), fun j hj => (hPQ _ _).1 (h.2 j hj)⟩
theorem BestP.conv {P Q : Int → Int → Prop} {f g : Int} {L M R : List Int} (hp : BestP P f L) (hq : BestP Q g M)
    (h1 : ∀ a b (ha : a < L.length) (hb : b < M.length), ∃ h : a + b < R.length, R[a + b] ≤ L[a] + M[b]) (h2 : ∀ t (h : t < R.length), ∃ a b, ∃ (ha : a < L.length) (hb : b < M.length), a + b = t ∧ R[t] = L[a] + M[b]) :
    BestP (fun v c => ∃ v1 c1 v2 c2, P v1 c1 ∧ Q v2 c2 ∧ v = v1 + v2 ∧ c = c1 + c2) (f + g) R := by
  constructor
  · rintro v c ⟨v1, c1, v2, c2, h3, h4, rfl, rfl⟩
    obtain ⟨a, ha, rfl, ha2⟩ := hp.1 _ _ h3
    obtain ⟨b, hb, rfl, hb2⟩ := hq.1 _ _ h4
    obtain ⟨h, hr⟩ := h1 a b ha hb
    exact ⟨a + b, h, by omega, by omega⟩
  · intro t ht
    obtain ⟨a, b, ha, hb, rfl, hr⟩ := h2 t ht
    exact ⟨f + a, L[a], g + b, M[b], hp.2 a ha, hq.2 b hb, by omega, hr⟩
theorem BestP.cut {P : Int → Int → Prop} {f : Int} {L : List Int} {T : Int × Int} (hp : BestP P f L) (k n : Nat) (hk : k ≤ n) (hn : n ≤ L.length) (h1 : ∀ j : Nat, j < L.length → ((T.1 ≤ f + j ∧ f + j ≤ T.2) ↔ (k ≤ j ∧ j < n))) :
    BestP (fun v c => P v c ∧ (T.1 ≤ v ∧ v ≤ T.2)) (f + k) ((L.take n).drop k) := by
  constructor
  · rintro v c ⟨h, ht⟩
    obtain ⟨j, hj, rfl, hc⟩ := hp.1 _ _ h
    obtain ⟨a, b⟩ := (h1 j hj).1 ht
    exact ⟨j - k, by simp; omega, by omega, by simpa [show k + (j - k) = j by omega] using hc⟩
  · intro j hj
    simp at hj
    have := hp.2 (k + j) (by omega)
    refine ⟨?_, ?_⟩
    · rw [show f + (k : Int) + (j : Int) = f + ((k + j : Nat) : Int) by omega]
      simpa using this
    · rw [show f + (k : Int) + (j : Int) = f + ((k + j : Nat) : Int) by omega]
      exact (h1 (k + j) (by omega)).2 (by omega)

/-- The document's way: one list for all numbers from 0 to 1600. -/
def neverW : Int := 1073741824
def Best0 (P : Int → Int → Prop) (L : List Int) : Prop := L.length = 1601 ∧ (∀ v c, P v c → ∃ j, ∃ h : j < L.length, v = (j : Int) ∧ L[j] ≤ c) ∧ (∀ j (h : j < L.length), 0 ≤ L[j] ∧ L[j] ≤ neverW) ∧ ∀ j (h : j < L.length), L[j] < neverW → P (j : Int) L[j]
end
end Go.Proofs.YtgdilbilhajgaaaDoor
