/- Ranger, plain: the document's worst crowd, a step after the other. -/
import Derived.Test.YtfebhofihioaoaaA3
namespace Go.Proofs.Ytfebhofihioaoaa
set_option linter.unusedVariables false
set_option linter.unusedSimpArgs false

/-- The next step's size. -/
def nextS (x : Prk) (c : Nat → Int) (i : Nat) : Int := need1 (x.ho i) (c i) * x.ho i + 1 - c i
/-- Can one more step be taken here? -/
def candS (x : Prk) (S : Nat) (c : Nat → Int) (left : Int) (i : Nat) : Prop := S.testBit i = true ∧ nextS x c i ≤ left ∧ c i + nextS x c i ≤ x.hi i
/-- So far taken, the smallest ones first. -/
structure Worst1 (x : Prk) (S : Nat) (e c : Nat → Int) (left : Int) : Prop where
  crowd : ∀ i, i < x.n → c i = x.lo i + coC x i (e i)
  cap : ∀ i, i < x.n → 0 ≤ e i ∧ e i ≤ capC x S i
  left0 : 0 ≤ left
  left_ : left = x.ahi - sumN c x.n
  stable : ∀ i j, i < x.n → j < x.n → e i < capC x S i → 0 < e j → stC x j (e j) ≤ stC x i (e i + 1)
section
variable {x : Prk} {S : Nat} {e c : Nat → Int} {left : Int}
theorem st_mono (hx : PrkOk x) {i : Nat} (hi : i < x.n) {k : Int} (_hk : 0 ≤ k) : stC x i k ≤ stC x i (k + 1) := by
  have h := hx.hold i hi
  have hf := first_bd (h := x.ho i) (lo := x.lo i) h.1
  unfold stC stepS
  split
  · split <;> omega
  · rw [if_neg (by omega)]; omega
theorem next_eq (hx : PrkOk x) {i : Nat} (hi : i < x.n) (h0 : 0 ≤ e i) (hc : c i = x.lo i + coC x i (e i)) : nextS x c i = stC x i (e i + 1) := by
  have h := hx.hold i hi
  unfold nextS
  have h1 : need1 (x.ho i) (c i) = need1 (x.ho i) (x.lo i) + e i := by rw [hc]; exact need1_cost h.1 h0
  rw [h1, hc]
  unfold coC stC stepS
  by_cases h2 : e i = 0
  · rw [h2, cost_zero, if_pos (by omega)]
    unfold firstS
    simp
  · rw [cost_pos (by omega), if_neg (by omega)]
    unfold firstS
    have h3 : (need1 (x.ho i) (x.lo i) + e i) * x.ho i = need1 (x.ho i) (x.lo i) * x.ho i + (e i - 1) * x.ho i + x.ho i := by
      rw [show need1 (x.ho i) (x.lo i) + e i = need1 (x.ho i) (x.lo i) + ((e i - 1) + 1) by omega, Int.add_mul, Int.add_mul, Int.one_mul]
      omega
    omega
theorem cap_next (hx : PrkOk x) {i : Nat} (hi : i < x.n) (hb : S.testBit i = true) (h0 : 0 ≤ e i) (hc : c i = x.lo i + coC x i (e i)) : e i < capC x S i ↔ c i + nextS x c i ≤ x.hi i := by
  have h := hx.hold i hi
  have hp := hx.peo i hi
  rw [next_eq hx hi h0 hc]
  unfold capC
  rw [if_pos hb]
  have h1 := cap_iff (h := x.ho i) (lo := x.lo i) (hi := x.hi i) (e := e i + 1) h.1 hp.2.1 (by omega)
  rw [cost_succ h0] at h1
  unfold coC at hc
  unfold stC
  constructor
  · intro h2
    have := h1.1 (by omega)
    omega
  · intro h2
    have := h1.2 (by omega)
    omega
theorem Worst1.start (hx : PrkOk x) (S : Nat) : Worst1 x S (fun _ => 0) x.lo (x.ahi - sumN x.lo x.n) where
  crowd i hi := by unfold coC; rw [cost_zero]; omega
  cap i hi := by
    refine ⟨Int.le_refl _, ?_⟩
    unfold capC
    split
    · exact cap_nonneg (hx.hold i hi).1
    · omega
  left0 := by have := hx.most; omega
  left_ := rfl
  stable i j hi hj h1 h2 := by omega
/-- One more step, the smallest one that can be taken. -/
theorem Worst1.step (hx : PrkOk x) (h : Worst1 x S e c left) {b : Nat} (hb : b < x.n) (hcb : candS x S c left b) (hmin : ∀ i, i < x.n → candS x S c left i → nextS x c b ≤ nextS x c i) {c' : Nat → Int} (hc' : ∀ i, i < x.n → c' i = if i = b then c b + nextS x c b else c i) :
    Worst1 x S (fun i => if i = b then e b + 1 else e i) c' (left - nextS x c b) := by
  have hn : ∀ i, i < x.n → nextS x c i = stC x i (e i + 1) := fun i hi => next_eq hx hi (h.cap i hi).1 (h.crowd i hi)
  have hecap : e b < capC x S b := (cap_next hx hb hcb.1 (h.cap b hb).1 (h.crowd b hb)).2 hcb.2.2
  have h1b := hn b hb
  have hx0 : 1 ≤ nextS x c b := by
    have h2 := hx.hold b hb
    have hf := first_bd (h := x.ho b) (lo := x.lo b) h2.1
    rw [h1b]
    unfold stC stepS
    split <;> omega
  refine ⟨fun i hi => ?_, fun i hi => ?_, by have := hcb.2.1; omega, ?_, fun i j hi hj h1 h2 => ?_⟩
  · rw [hc' i hi]
    by_cases ei : i = b
    · subst ei
      rw [if_pos rfl]
      simp only [if_true]
      rw [h.crowd i hi]
      unfold coC
      rw [cost_succ (h.cap i hi).1]
      have h3 := h.crowd i hi
      rw [h1b]
      unfold stC
      omega
    · simp only [ei, if_false]
      exact h.crowd i hi
  · by_cases ei : i = b
    · subst ei
      simp only [if_true]
      have := h.cap i hi
      omega
    · simp only [ei, if_false]
      exact h.cap i hi
  · rw [h.left_, sumN_congr (g := fun i => if i = b then c b + nextS x c b else c i) hc', sumN_set c _ hb]
    omega
  · have hi0 := h.cap i hi
    have hlow : ∀ k, k < x.n → e k < capC x S k → nextS x c b ≤ stC x k (e k + 1) := fun k hk hkc => by
      rw [← hn k hk]
      have hSk : S.testBit k = true := by
        by_cases hs : S.testBit k = true
        · exact hs
        · unfold capC at hkc
          rw [if_neg hs] at hkc
          have := (h.cap k hk).1
          omega
      rcases Int.lt_or_le left (nextS x c k) with h5 | h5
      · have := hcb.2.1; omega
      · exact hmin k hk ⟨hSk, h5, (cap_next hx hk hSk (h.cap k hk).1 (h.crowd k hk)).1 hkc⟩
    by_cases ej : j = b
    · subst ej
      simp only [if_true]
      by_cases ei : i = j
      · subst ei
        simp only [if_true]
        exact st_mono hx hi (by omega)
      · simp only [ei, if_false] at h1 ⊢
        rw [← h1b]
        exact hlow i hi h1
    · simp only [ej, if_false] at h2 ⊢
      by_cases ei : i = b
      · subst ei
        simp only [if_true] at h1 ⊢
        have h6 := h.stable i j hi hj hecap h2
        have h7 := st_mono hx hi (k := e i + 1) (by omega)
        omega
      · simp only [ei, if_false] at h1 ⊢
        exact h.stable i j hi hj h1 h2
/-- No step more can be taken: this is the need. -/
theorem Worst1.stop (hx : PrkOk x) (h : Worst1 x S e c left) (hno : ∀ i, i < x.n → ¬ candS x S c left i) : Crowd x c ∧ IsNeed x S (needC x S c) := by
  have hs : sumN c x.n = sumN x.lo x.n + sumN (fun i => coC x i (e i)) x.n := by
    rw [← sumN_add]
    exact sumN_congr fun i hi => h.crowd i hi
  have hne := need_of_stable hx (S := S) (e := e) (left := left) h.left0 (by have := h.left_; omega) h.cap h.stable fun i hi hc => by
    have hS : S.testBit i = true := by
      by_cases hs : S.testBit i = true
      · exact hs
      · unfold capC at hc
        rw [if_neg hs] at hc
        have := (h.cap i hi).1
        omega
    have h1 := next_eq hx hi (h.cap i hi).1 (h.crowd i hi)
    have h2 := (cap_next hx hi hS (h.cap i hi).1 (h.crowd i hi)).1 hc
    rcases Int.lt_or_le left (nextS x c i) with h3 | h3
    · omega
    · exact absurd ⟨hS, h3, h2⟩ (hno i hi)
  have hcr : Crowd x c := by
    refine ⟨fun i hi => ?_, by have := h.left_; have := h.left0; omega⟩
    have h1 := h.crowd i hi
    have h2 := h.cap i hi
    have h3 := hx.hold i hi
    have h4 := hx.peo i hi
    have h5 := cost_nonneg (h := x.ho i) (lo := x.lo i) h3.1 (e i)
    unfold coC at h1
    have h6 : costS (x.ho i) (x.lo i) (e i) ≤ x.hi i - x.lo i := by
      unfold capC at h2
      split at h2
      · exact (cap_iff h3.1 h4.2.1 h2.1).1 h2.2
      · rw [show e i = 0 by omega, cost_zero]; omega
    omega
  refine ⟨hcr, ?_⟩
  have e1 : needC x S c = baseC x S + sumN e x.n := needC_steps hx h.cap fun i hi _ => by rw [h.crowd i hi]; exact need1_cost (hx.hold i hi).1 (h.cap i hi).1
  rw [e1]
  exact hne
theorem needC_mono (hx : PrkOk x) (S : Nat) {c d : Nat → Int} (h : ∀ i, i < x.n → c i ≤ d i) : needC x S c ≤ needC x S d := sumN_le fun i hi => by
  split
  · exact need1_mono (hx.hold i hi).1 (h i hi)
  · exact Int.le_refl _
/-- More people, as many as there have to be: the need is the same. -/
theorem worst_more (hx : PrkOk x) {c d : Nat → Int} (hn : IsNeed x S (needC x S c)) (hcd : ∀ i, i < x.n → c i ≤ d i) (hd : Crowd x d) : needC x S d = needC x S c := by
  have := hn.2 d hd
  have := needC_mono hx S hcd
  omega
/-- So many people at each spot, and in all, as there can be. -/
def Possible (x : Prk) (c : Nat → Int) : Prop := (∀ i, i < x.n → x.lo i ≤ c i ∧ c i ≤ x.hi i) ∧ x.alo ≤ sumN c x.n ∧ sumN c x.n ≤ x.ahi
theorem Possible.crowd {c : Nat → Int} (h : Possible x c) : Crowd x c := ⟨h.1, h.2.2⟩
/-- One spot is filled up, as far as people are lacking. -/
structure Fill (x : Prk) (c d : Nat → Int) (lack : Int) : Prop where
  ge : ∀ i, i < x.n → c i ≤ d i ∧ d i ≤ x.hi i
  lack_ : lack = x.alo - sumN d x.n
  le : sumN d x.n ≤ x.ahi
theorem Fill.start (h : Crowd x c) : Fill x c c (x.alo - sumN c x.n) := ⟨fun i hi => ⟨Int.le_refl _, (h.1 i hi).2⟩, rfl, h.2⟩
theorem Fill.step (hx : PrkOk x) {c d d' : Nat → Int} {lack : Int} (h : Fill x c d lack) {b : Nat} (hb : b < x.n) (hd' : ∀ i, i < x.n → d' i = if i = b then d b + max 0 (min lack (x.hi b - d b)) else d i) :
    Fill x c d' (lack - max 0 (min lack (x.hi b - d b))) ∧ (lack - max 0 (min lack (x.hi b - d b)) ≤ 0 ∨ d' b = x.hi b) := by
  have h1 := h.ge b hb
  have hs : sumN d' x.n = sumN d x.n + max 0 (min lack (x.hi b - d b)) := by
    rw [sumN_congr hd', sumN_set d _ hb]
    omega
  have hl := h.lack_
  have hle := h.le
  have hall := hx.all
  refine ⟨⟨fun i hi => ?_, by omega, by omega⟩, ?_⟩
  · rw [hd' i hi]
    by_cases e : i = b
    · subst e; rw [if_pos rfl]; omega
    · rw [if_neg e]; exact h.ge i hi
  · rw [hd' b hb, if_pos rfl]
    omega
/-- All spots are full, or nobody lacks. -/
theorem Fill.done (hx : PrkOk x) {c d : Nat → Int} {lack : Int} (hc : Crowd x c) (h : Fill x c d lack) (hf : lack ≤ 0 ∨ ∀ i, i < x.n → d i = x.hi i) : Possible x d := by
  refine ⟨fun i hi => ?_, ?_, h.le⟩
  · have := h.ge i hi
    have := hc.1 i hi
    omega
  · have hl := h.lack_
    rcases hf with hf | hf
    · omega
    · have := hx.least
      rw [sumN_congr (g := x.hi) hf]
      exact this
end
end Go.Proofs.Ytfebhofihioaoaa
