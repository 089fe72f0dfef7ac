/- Ranger, plain: a ranger more, fewer people, a spot more near by. -/
import Derived.Test.YtfebhofihioaoaaA13
namespace Go.Proofs.Ytfebhofihioaoaa
set_option linter.unusedVariables false
set_option linter.unusedSimpArgs false
open Go Go.RowKit

/-- The same spots, and no more people in all. -/
structure Alike (x y : Prk) : Prop where
  n : y.n = x.n
  lo : ∀ i, y.lo i = x.lo i
  hi : ∀ i, y.hi i = x.hi i
  ho : ∀ i, y.ho i = x.ho i
  ahi : y.ahi ≤ x.ahi
theorem needV_alike {x y : Prk} (hn : AllNeed x) (hm : AllNeed y) (h : Alike x y) (S : Nat) : needV y S ≤ needV x S := by
  obtain ⟨⟨c, hc, e⟩, _⟩ := need_is hm S
  rw [← e]
  have e1 : needC y S c = needC x S c := by
    unfold needC
    rw [h.n]
    exact sumN_congr fun i _ => by rw [h.ho i]
  rw [e1]
  refine (need_is hn S).2 c ⟨fun i hi => ?_, ?_⟩
  · have := hc.1 i (by rw [h.n]; exact hi)
    rwa [h.lo, h.hi] at this
  · have h1 := hc.2
    rw [h.n] at h1
    have := h.ahi
    omega
theorem enough_mono {x y : Prk} {p q : Nat → Int} (hx : PrkOk x) (hy : PrkOk y) (h : Alike x y) (h0 : ∀ i, i < x.n → 0 ≤ q i) (hq : ∀ i, i < x.n → p i ≤ q i) (hf : ∀ i s, i < x.n → s < x.n → frX x i s = true → frX y i s = true) (he : Enough x p) : Enough y q := fun S hS => by
  have h1 := he S (by rw [← h.n]; exact hS)
  have h2 := needV_alike (allNeed hx) (allNeed hy) h S
  have h3 := forX_mono (posts := p) h.n h0 hq hf S
  omega
theorem lack_ok {x : Prk} {l : List Int} (h : (lackR x l).2.2 = 4) : PrkOk x ∧ PostsOk x l ∧ Enough x (crF l) := by
  unfold lackR lackOf at h
  split at h
  · rename_i hp
    split at h
    · rename_i hq
      split at h
      · rename_i hz
        exact ⟨prkB_iff.1 hp, postsB_iff.1 hq, (lack_zero (prkB_iff.1 hp) _).1 hz⟩
      · exact absurd h (by simp)
    · exact absurd h (by simp)
  · exact absurd h (by simp)
theorem lack_four {x : Prk} {l : List Int} (hx : PrkOk x) (hl : PostsOk x l) (he : Enough x (crF l)) : (lackR x l).2.2 = 4 := by
  rcases lack_kind hx hl.1 hl.2 with ⟨_, h⟩ | ⟨h, _⟩
  · exact h
  · exact absurd he h
/-- A ranger more. -/
theorem more_rich {x : Prk} {l : List Int} (h : (lackR x l).2.2 = 4) {k : Nat} (hk : k < l.length) : (lackR x (l.set k (min 12 (l[k] + 1)))).2.2 = 4 := by
  obtain ⟨hx, hl, he⟩ := lack_ok h
  obtain ⟨hl1, hl2⟩ := posts_crF hl
  have hb := hl.2 k hk
  have hkx : k < x.n := by rw [← hl1]; exact hk
  have e : crF l k = l[k] := by simp [crF, List.getD, hk]
  refine lack_four hx ⟨by simpa using hl.1, fun j hj => ?_⟩ (enough_mono hx hx ⟨rfl, fun _ => rfl, fun _ => rfl, fun _ => rfl, Int.le_refl _⟩ (fun i hi => ?_) (fun i hi => ?_) (fun i s _ _ h => h) he)
  · rw [List.getElem_set]
    split
    · omega
    · exact hl.2 j (by simpa using hj)
  · have := hl2 i hi
    rw [crF_set hk]
    split
    · omega
    · exact this.1
  · rw [crF_set hk]
    split
    · rename_i h1
      subst h1
      omega
    · exact Int.le_refl _
/-- Fewer people in all. -/
theorem more_few {x : Prk} {l : List Int} (h : (lackR x l).2.2 = 4) {z : Int} (hz : 0 ≤ z) : (prkB ⟨x.sp, x.alo, max x.alo (x.ahi - z)⟩ = true ∧ (lackR ⟨x.sp, x.alo, max x.alo (x.ahi - z)⟩ l).2.2 = 4) ∨ (prkB ⟨x.sp, x.alo, max x.alo (x.ahi - z)⟩ = false ∧ (lackR ⟨x.sp, x.alo, max x.alo (x.ahi - z)⟩ l).2.2 = 1) := by
  obtain ⟨hx, hl, he⟩ := lack_ok h
  cases hp : prkB ⟨x.sp, x.alo, max x.alo (x.ahi - z)⟩
  · refine .inr ⟨rfl, ?_⟩
    unfold lackR lackOf
    rw [hp]
    rfl
  · refine .inl ⟨rfl, ?_⟩
    have hy := prkB_iff.1 hp
    have ha := hx.all.2.1
    exact lack_four hy hl (enough_mono (x := x) hx hy ⟨rfl, fun _ => rfl, fun _ => rfl, fun _ => rfl, by simp only; omega⟩ (fun i hi => ((posts_crF hl).2 i hi).1) (fun i _ => Int.le_refl _) (fun i s _ _ h => h) he)
theorem bit_all : ((List.range 7).all fun n => (List.range (2 ^ n)).all fun m => (List.range n).all fun b => m.testBit b || (decide (m + 2 ^ b < 2 ^ n) && (List.range n).all fun s => !m.testBit s || (m + 2 ^ b).testBit s)) = true := by decide +kernel
theorem bit_more (n : Nat) (hn : n < 7) (m : Nat) (hm : m < 2 ^ n) (b : Nat) (hb : b < n) (h : m.testBit b = false) : m + 2 ^ b < 2 ^ n ∧ ∀ s, s < n → m.testBit s = true → (m + 2 ^ b).testBit s = true := by
  have h1 := List.all_eq_true.1 (List.all_eq_true.1 (List.all_eq_true.1 bit_all n (List.mem_range.2 hn)) m (List.mem_range.2 hm)) b (List.mem_range.2 hb)
  rw [h, Bool.false_or, Bool.and_eq_true, decide_eq_true_eq] at h1
  refine ⟨h1.1, fun s hs ht => ?_⟩
  have h2 := List.all_eq_true.1 h1.2 s (List.mem_range.2 hs)
  rw [ht] at h2
  simpa using h2
theorem pow_both (b : Nat) : ∃ B : Nat, 2 ^ b = B ∧ (2 : Int) ^ b = (B : Int) := ⟨2 ^ b, rfl, by simp⟩
/-- A spot more near by. -/
def wideP (x : Prk) (k b : Nat) : Prk := ⟨x.sp.set k (x.lo k, x.hi k, x.ho k, if (x.ne k).toNat.testBit b then x.ne k else x.ne k + (2 : Int) ^ b), x.alo, x.ahi⟩
theorem wide_at {x : Prk} {k : Nat} (hk : k < x.sp.length) (v : Int × Int × Int × Int) (i : Nat) : (x.sp.set k v).getD i (0, 0, 1, 0) = if i = k then v else x.sp.getD i (0, 0, 1, 0) := by
  rw [List.getD_eq_getElem?_getD, List.getD_eq_getElem?_getD, List.getElem?_set]
  by_cases h : k = i
  · subst h
    simp [hk]
  · rw [if_neg h, if_neg fun e => h e.symm]
theorem more_wide {x : Prk} {l : List Int} (h : (lackR x l).2.2 = 4) {k b : Nat} (hk : k < x.n) (hb : b < x.n) : (lackR (wideP x k b) l).2.2 = 4 := by
  obtain ⟨hx, hl, he⟩ := lack_ok h
  have hks : k < x.sp.length := hk
  have hn : (wideP x k b).n = x.n := by simp [wideP, Prk.n]
  have hlo : ∀ i, (wideP x k b).lo i = x.lo i := fun i => by
    unfold wideP Prk.lo
    rw [wide_at hks]
    split
    · rename_i e; subst e; rfl
    · rfl
  have hhi : ∀ i, (wideP x k b).hi i = x.hi i := fun i => by
    unfold wideP Prk.hi
    rw [wide_at hks]
    split
    · rename_i e; subst e; rfl
    · rfl
  have hho : ∀ i, (wideP x k b).ho i = x.ho i := fun i => by
    unfold wideP Prk.ho
    rw [wide_at hks]
    split
    · rename_i e; subst e; rfl
    · rfl
  have hne : ∀ i, (wideP x k b).ne i = if i = k then (if (x.ne k).toNat.testBit b then x.ne k else x.ne k + (2 : Int) ^ b) else x.ne i := fun i => by
    have e : (wideP x k b).ne i = ((x.sp.set k (x.lo k, x.hi k, x.ho k, if (x.ne k).toNat.testBit b then x.ne k else x.ne k + (2 : Int) ^ b)).getD i (0, 0, 1, 0)).2.2.2 := rfl
    rw [e, wide_at hks]
    split <;> rfl
  have hne0 := hx.near k hk
  have h6 := hx.n6
  have hbm := bit_more x.n (by omega) (x.ne k).toNat (by
    obtain ⟨B2, b3, b4⟩ := pow_both x.n
    rw [b3]
    rw [b4] at hne0
    omega) b hb
  have hy : PrkOk (wideP x k b) := by
    refine ⟨by rw [hn]; exact h6, hx.all, fun i hi => by rw [hlo, hhi]; exact hx.peo i (by omega), fun i hi => by rw [hho]; exact hx.hold i (by omega), fun i hi => ?_, ?_, ?_⟩
    · rw [hne, hn]
      split
      · split
        · exact hne0
        · rename_i hf
          have := (hbm (bool_false hf)).1
          obtain ⟨B1, b1, b2⟩ := pow_both b
          obtain ⟨B2, b3, b4⟩ := pow_both x.n
          rw [b1, b3] at this
          rw [b4] at hne0
          rw [b2, b4]
          omega
      · exact hx.near i (by omega)
    · rw [hn, sumN_congr fun i _ => hlo i]
      exact hx.most
    · rw [hn, sumN_congr fun i _ => hhi i]
      exact hx.least
  refine lack_four hy ⟨by rw [hn]; exact hl.1, hl.2⟩ (enough_mono hx hy ⟨hn, hlo, hhi, hho, Int.le_refl _⟩ (fun i hi => ((posts_crF hl).2 i hi).1) (fun i _ => Int.le_refl _) (fun i s hi hs hf => ?_) he)
  unfold frX at hf ⊢
  rw [Bool.or_eq_true] at hf ⊢
  rcases hf with hf | hf
  · exact .inl hf
  · refine .inr ?_
    rw [hne]
    split
    · rename_i e
      subst e
      split
      · exact hf
      · rename_i hf2
        have h1 := (hbm (bool_false hf2)).2 s hs hf
        have e2 : (x.ne i + (2 : Int) ^ b).toNat = (x.ne i).toNat + 2 ^ b := by
          obtain ⟨B1, b1, b2⟩ := pow_both b
          rw [b1, b2]
          omega
        rw [e2]
        exact h1
    · exact hf
end Go.Proofs.Ytfebhofihioaoaa
