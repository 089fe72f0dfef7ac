/- Ranger, plain: the need as a value; what is lacking; posts in order. -/
import Derived.Test.YtfebhofihioaoaaA4
import Derived.Test.YtfebhofihioaoaaA5
namespace Go.Proofs.Ytfebhofihioaoaa
set_option linter.unusedVariables false
set_option linter.unusedSimpArgs false

open Classical in
noncomputable def needV (x : Prk) (S : Nat) : Int := if h : ∃ v, IsNeed x S v then Classical.choose h else 0
theorem IsNeed.val {x : Prk} {S : Nat} {v : Int} (h : IsNeed x S v) : needV x S = v := by
  have hex : ∃ v, IsNeed x S v := ⟨v, h⟩
  unfold needV
  rw [dif_pos hex]
  exact (Classical.choose_spec hex).eq h
/-- Can a ranger of a post come to a spot? -/
def frX (x : Prk) (i s : Nat) : Bool := i == s || (x.ne i).toNat.testBit s
def forX (x : Prk) (posts : Nat → Int) (S : Nat) : Int := forN x.n (frX x) posts S
/-- Do posts suffice for a crowd? -/
def HoldsX (x : Prk) (posts c : Nat → Int) : Prop := HallN x.n (frX x) posts fun s => need1 (x.ho s) (c s)
theorem want_needC (x : Prk) (c : Nat → Int) (S : Nat) : wantN x.n (fun s => need1 (x.ho s) (c s)) S = needC x S c := rfl
/-- All sets have a need. -/
def AllNeed (x : Prk) : Prop := ∀ S, ∃ v, IsNeed x S v
theorem need_is {x : Prk} (h : AllNeed x) (S : Nat) : IsNeed x S (needV x S) := by
  obtain ⟨v, hv⟩ := h S
  rw [hv.val]; exact hv
def Enough (x : Prk) (posts : Nat → Int) : Prop := ∀ S, S < 2 ^ x.n → needV x S ≤ forX x posts S
section
variable {x : Prk} {posts : Nat → Int}
/-- With enough rangers for all sets each crowd that can be is watched. -/
theorem enough_holds (hn : AllNeed x) (h : Enough x posts) {c : Nat → Int} (hc : Crowd x c) : HoldsX x posts c := fun S hS => by
  have h1 := (need_is hn S).2 c hc
  rw [want_needC]
  exact Int.le_trans h1 (h S hS)
theorem lack_not {S : Nat} (hS : S < 2 ^ x.n) {c : Nat → Int} (hlt : forX x posts S < needC x S c) : ¬ HoldsX x posts c := fun h => by
  have := h S hS
  rw [want_needC] at this
  unfold forX at hlt
  omega
theorem needC_sub (hx : PrkOk x) {S T : Nat} (hsub : ∀ i, i < x.n → S.testBit i = true → T.testBit i = true) {c : Nat → Int} (hc : ∀ i, i < x.n → 0 ≤ c i) : needC x S c ≤ needC x T c := sumN_le fun i hi => by
  have h0 := (need1_bd (hx.hold i hi).1 (hc i hi)).1
  by_cases h1 : S.testBit i = true
  · rw [if_pos h1, if_pos (hsub i hi h1)]; exact Int.le_refl _
  · rw [if_neg h1]; split <;> omega
theorem needV_sub (hx : PrkOk x) (hn : AllNeed x) {S T : Nat} (hsub : ∀ i, i < x.n → S.testBit i = true → T.testBit i = true) : needV x S ≤ needV x T := by
  obtain ⟨⟨c, hc, e⟩, _⟩ := need_is hn S
  rw [← e]
  have h1 := needC_sub hx hsub (c := c) fun i hi => by have := (hc.1 i hi).1; have := (hx.peo i hi).1; omega
  exact Int.le_trans h1 ((need_is hn T).2 c hc)
theorem needV_both (hx : PrkOk x) (hn : AllNeed x) {S T U : Nat} (hU : ∀ i, i < x.n → U.testBit i = true → S.testBit i = true ∨ T.testBit i = true) : needV x U ≤ needV x S + needV x T := by
  obtain ⟨⟨c, hc, e⟩, _⟩ := need_is hn U
  rw [← e]
  have h1 := (need_is hn S).2 c hc
  have h2 := (need_is hn T).2 c hc
  have h3 : needC x U c ≤ needC x S c + needC x T c := by
    unfold needC
    rw [← sumN_add]
    refine sumN_le fun i hi => ?_
    have h0 := (need1_bd (hx.hold i hi).1 (show 0 ≤ c i by have := (hc.1 i hi).1; have := (hx.peo i hi).1; omega)).1
    by_cases hu : U.testBit i = true
    · rw [if_pos hu]
      rcases hU i hi hu with h | h
      · rw [if_pos h]; split <;> omega
      · rw [if_pos h]; split <;> omega
    · rw [if_neg hu]
      split <;> split <;> omega
  omega
theorem needV_nonneg (hx : PrkOk x) (hn : AllNeed x) (S : Nat) : 0 ≤ needV x S := by
  obtain ⟨⟨c, hc, e⟩, _⟩ := need_is hn S
  rw [← e]
  refine sumN_nonneg fun i hi => ?_
  have h0 := (need1_bd (hx.hold i hi).1 (show 0 ≤ c i by have := (hc.1 i hi).1; have := (hx.peo i hi).1; omega)).1
  split <;> omega
theorem needV_zero (hn : AllNeed x) : needV x 0 = 0 := by
  obtain ⟨⟨c, hc, e⟩, _⟩ := need_is hn 0
  rw [← e]
  unfold needC
  rw [sumN_congr (g := fun _ => 0) fun i _ => by simp, sumN_zero]
theorem forX_zero : forX x posts 0 = 0 := by
  unfold forX forN
  rw [sumN_congr (g := fun _ => 0) fun i _ => by
    have : canB x.n (frX x) 0 i = false := by
      cases h : canB x.n (frX x) 0 i
      · rfl
      · obtain ⟨s, _, h2, _⟩ := canB_iff.1 h
        simp at h2
    rw [this]; simp, sumN_zero]
theorem forX_mono {y : Prk} (hn : y.n = x.n) {q : Nat → Int} (h0 : ∀ i, i < x.n → 0 ≤ q i) (hq : ∀ i, i < x.n → posts i ≤ q i) (hf : ∀ i s, i < x.n → s < x.n → frX x i s = true → frX y i s = true) (S : Nat) : forX x posts S ≤ forX y q S := by
  unfold forX forN
  rw [hn]
  refine sumN_le fun i hi => ?_
  by_cases h : canB x.n (frX x) S i = true
  · obtain ⟨s, h1, h2, h3⟩ := canB_iff.1 h
    rw [if_pos h, if_pos (canB_iff.2 ⟨s, h1, h2, hf i s hi h1 h3⟩)]
    exact hq i hi
  · rw [if_neg h]
    have := h0 i hi
    split <;> omega
/-- With fewer people in all, the same spots. -/
theorem needV_few {y : Prk} (hn : AllNeed x) (hm : AllNeed y) (hs : y.sp = x.sp) (ha : y.ahi ≤ x.ahi) (S : Nat) : needV y S ≤ needV x S := by
  obtain ⟨⟨c, hc, e⟩, _⟩ := need_is hm S
  rw [← e]
  have e1 : needC y S c = needC x S c := by unfold needC Prk.n Prk.ho; rw [hs]
  rw [e1]
  refine (need_is hn S).2 c ⟨?_, ?_⟩
  · have := hc.1
    unfold Prk.n Prk.lo Prk.hi at this ⊢
    rwa [hs] at this
  · have := hc.2
    unfold Prk.n at this ⊢
    rw [hs] at this
    omega
end

/-! What is lacking, set by set. -/
def countN (S : Nat) : Nat := ((List.range 6).filter fun i => S.testBit i).length
def lackTo (need has : Nat → Int) : Nat → Nat × Int
  | 0 => (0, 0)
  | k + 1 => if 0 < need k - has k ∧ ((lackTo need has k).1 = 0 ∨ countN k < countN (lackTo need has k).1) then (k, need k - has k) else lackTo need has k
theorem lackTo_spec (need has : Nat → Int) (h0 : need 0 = has 0) : ∀ k : Nat, ((lackTo need has k).1 = 0 ∧ (lackTo need has k).2 = 0 ∧ ∀ S, S < k → need S ≤ has S) ∨ (0 < (lackTo need has k).1 ∧ (lackTo need has k).1 < k ∧ 0 < (lackTo need has k).2 ∧ (lackTo need has k).2 = need (lackTo need has k).1 - has (lackTo need has k).1)
  | 0 => .inl ⟨rfl, rfl, fun S h => by omega⟩
  | k + 1 => by
    have ih := lackTo_spec need has h0 k
    simp only [lackTo]
    by_cases h : 0 < need k - has k ∧ ((lackTo need has k).1 = 0 ∨ countN k < countN (lackTo need has k).1)
    · rw [if_pos h]
      refine .inr ⟨?_, by simp, h.1, rfl⟩
      rcases Nat.eq_zero_or_pos k with rfl | hk
      · omega
      · exact hk
    · rw [if_neg h]
      rcases ih with ⟨a, b, c⟩ | ⟨a, b, c, d⟩
      · refine .inl ⟨a, b, fun S hS => ?_⟩
        rcases Nat.lt_succ_iff_lt_or_eq.1 hS with h1 | rfl
        · exact c S h1
        · rcases Int.lt_or_le 0 (need S - has S) with h2 | h2
          · exact absurd ⟨h2, .inl a⟩ h
          · omega
      · exact .inr ⟨a, by omega, c, d⟩

/-! All lists of so many numbers with a sum, in order. -/
def vecs : Nat → Nat → List (List Nat)
  | 0, left => if left = 0 then [[]] else []
  | k + 1, left => (List.range (left + 1)).flatMap fun v => (vecs k (left - v)).map (v :: ·)
theorem mem_vecs : ∀ (k left : Nat) (l : List Nat), l ∈ vecs k left ↔ l.length = k ∧ l.sum = left
  | 0, left, l => by
    unfold vecs
    split
    · rename_i h
      subst h
      simp only [List.mem_singleton]
      constructor
      · rintro rfl; simp
      · rintro ⟨h, _⟩; exact List.eq_nil_of_length_eq_zero h
    · rename_i h
      constructor
      · intro h1; cases h1
      · rintro ⟨h1, h2⟩
        obtain rfl := List.eq_nil_of_length_eq_zero h1
        simp at h2
        exact absurd h2.symm h
  | k + 1, left, l => by
    simp only [vecs, List.mem_flatMap, List.mem_map, List.mem_range]
    constructor
    · rintro ⟨v, hv, m, hm, rfl⟩
      obtain ⟨h1, h2⟩ := (mem_vecs k (left - v) m).1 hm
      simp
      omega
    · rintro ⟨h1, h2⟩
      match l, h1, h2 with
      | v :: m, h1, h2 =>
        simp at h1 h2
        exact ⟨v, by omega, m, (mem_vecs k (left - v) m).2 ⟨h1, by omega⟩, rfl⟩
theorem vecs_sorted : ∀ (k left : Nat), (vecs k left).Pairwise (· < ·)
  | 0, left => by
    unfold vecs
    split <;> simp
  | k + 1, left => by
    unfold vecs
    rw [List.pairwise_flatMap]
    refine ⟨fun i _ => ?_, ?_⟩
    · rw [List.pairwise_map]
      exact (vecs_sorted k (left - i)).imp fun h => List.cons_lt_cons_iff.2 (.inr ⟨rfl, h⟩)
    · refine List.pairwise_lt_range.imp fun {i j} hij => ?_
      intro a ha b hb
      obtain ⟨s, _, rfl⟩ := List.mem_map.1 ha
      obtain ⟨t, _, rfl⟩ := List.mem_map.1 hb
      exact List.cons_lt_cons_iff.2 (.inl hij)
/-- The posts that a list tells. -/
def postF (l : List Nat) : Nat → Int := fun i => (l.getD i 0 : Nat)
/-- The fewest posts: of n rangers, and the first in order. -/
structure IsFewest (x : Prk) (l : List Nat) : Prop where
  len : l.length = x.n
  sum : l.sum ≤ 12
  ok : Enough x (postF l)
  least : ∀ m : List Nat, m.length = x.n → Enough x (postF m) → l.sum < m.sum ∨ (l.sum = m.sum ∧ l ≤ m)
theorem IsFewest.eq {x : Prk} {l m : List Nat} (h : IsFewest x l) (k : IsFewest x m) : l = m := by
  have h1 := h.least m k.len k.ok
  have h2 := k.least l h.len h.ok
  rcases h1 with h1 | ⟨e1, h1⟩
  · rcases h2 with h2 | ⟨e2, h2⟩ <;> omega
  · rcases h2 with h2 | ⟨e2, h2⟩
    · omega
    · exact List.le_antisymm h1 h2
/-- All posts with fewer than n rangers, and those of n that are ahead, do not suffice; these do. -/
theorem fewest_of {x : Prk} {n : Nat} (hn : n ≤ 12) (hno : ∀ m : List Nat, m.length = x.n → m.sum < n → ¬ Enough x (postF m)) {i : Nat} (hi : i < (vecs x.n n).length) (hahead : ∀ j (hj : j < i), ¬ Enough x (postF ((vecs x.n n)[j]'(Nat.lt_trans hj hi)))) (hok : Enough x (postF (vecs x.n n)[i])) : IsFewest x (vecs x.n n)[i] := by
  obtain ⟨h1, h2⟩ := (mem_vecs x.n n _).1 (List.getElem_mem hi)
  refine ⟨h1, by omega, hok, fun m hm hmo => ?_⟩
  rcases Nat.lt_trichotomy m.sum n with h3 | h3 | h3
  · exact absurd hmo (hno m hm h3)
  · refine .inr ⟨by omega, ?_⟩
    obtain ⟨j, hj, rfl⟩ := List.mem_iff_getElem.1 ((mem_vecs x.n n m).2 ⟨hm, h3⟩)
    rcases Nat.lt_trichotomy j i with h4 | h4 | h4
    · exact absurd hmo (hahead j h4)
    · subst h4; exact List.le_refl _
    · exact List.le_of_lt (List.pairwise_iff_getElem.1 (vecs_sorted x.n n) i j hi hj h4)
  · exact .inl (by omega)
end Go.Proofs.Ytfebhofihioaoaa
