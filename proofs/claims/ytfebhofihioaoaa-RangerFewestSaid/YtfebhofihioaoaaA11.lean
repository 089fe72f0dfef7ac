/- Ranger, plain: who is seen when one more ranger is brought. -/
import Derived.Test.YtfebhofihioaoaaA10
namespace Go.Proofs.Ytfebhofihioaoaa
set_option linter.unusedVariables false
set_option linter.unusedSimpArgs false

section
variable {n : Nat} {fr : Nat → Nat → Bool} {at_ : Nat → Int} {wt : Nat → Nat → Int} {s seen i o T U : Nat}
/-- Nobody could be brought: those who were seen, newly, are closed. -/
structure CloP (n : Nat) (fr : Nat → Nat → Bool) (at_ : Nat → Int) (wt : Nat → Nat → Int) (s seen T : Nat) : Prop where
  sub : ∀ k, seen.testBit k = true → T.testBit k = true
  all : ∀ k, k < n → fr k s = true → T.testBit k = true
  new : ∀ k, k < n → T.testBit k = true → seen.testBit k = false → at_ k = 0 ∧ ∀ o, o < n → 0 < wt k o → ∀ j, j < n → fr j o = true → T.testBit j = true
structure Inv1 (n : Nat) (fr : Nat → Nat → Bool) (at_ : Nat → Int) (wt : Nat → Nat → Int) (s seen i T : Nat) : Prop where
  sub : ∀ k, seen.testBit k = true → T.testBit k = true
  done : ∀ k, k < i → fr k s = true → T.testBit k = true
  new : ∀ k, k < n → T.testBit k = true → seen.testBit k = false → at_ k = 0 ∧ ∀ o, o < n → o ≠ s → 0 < wt k o → ∀ j, j < n → fr j o = true → T.testBit j = true
structure Inv2 (n : Nat) (fr : Nat → Nat → Bool) (at_ : Nat → Int) (wt : Nat → Nat → Int) (s seen i o T : Nat) : Prop where
  sub : ∀ k, seen.testBit k = true → T.testBit k = true
  done : ∀ k, k < i → fr k s = true → T.testBit k = true
  me : T.testBit i = true
  zero : at_ i = 0
  mine : ∀ o', o' < o → o' ≠ s → 0 < wt i o' → ∀ j, j < n → fr j o' = true → T.testBit j = true
  new : ∀ k, k < n → k ≠ i → T.testBit k = true → seen.testBit k = false → at_ k = 0 ∧ ∀ o, o < n → o ≠ s → 0 < wt k o → ∀ j, j < n → fr j o = true → T.testBit j = true
theorem Inv1.start : Inv1 n fr at_ wt s seen 0 seen := ⟨fun _ h => h, fun k h => by omega, fun k _ h1 h2 => by rw [h1] at h2; cases h2⟩
theorem Inv1.skip (h : Inv1 n fr at_ wt s seen i T) (hi : fr i s = false ∨ T.testBit i = true) : Inv1 n fr at_ wt s seen (i + 1) T := by
  refine ⟨h.sub, fun k hk hf => ?_, h.new⟩
  rcases Nat.lt_succ_iff_lt_or_eq.1 hk with h1 | rfl
  · exact h.done k h1 hf
  · rcases hi with h1 | h1
    · rw [h1] at hf; cases hf
    · exact h1
theorem or_bit (T i k : Nat) : (T ||| 2 ^ i).testBit k = (T.testBit k || decide (i = k)) := by
  rw [Nat.testBit_or, Nat.testBit_two_pow]
theorem Inv1.mark (h : Inv1 n fr at_ wt s seen i T) (h0 : at_ i = 0) : Inv2 n fr at_ wt s seen i 0 (T ||| 2 ^ i) := by
  refine ⟨fun k hk => ?_, fun k hk hf => ?_, ?_, h0, fun o' ho => by omega, fun k hk hki hT hs => ?_⟩
  · rw [or_bit, h.sub k hk]; rfl
  · rw [or_bit, h.done k hk hf]; rfl
  · rw [or_bit]; simp
  · rw [or_bit] at hT
    have hne : ¬ i = k := fun e => hki e.symm
    simp [hne] at hT
    obtain ⟨h1, h2⟩ := h.new k hk hT hs
    refine ⟨h1, fun o ho hos hw j hj hf => ?_⟩
    rw [or_bit, h2 o ho hos hw j hj hf]; rfl
theorem Inv2.skip (h : Inv2 n fr at_ wt s seen i o T) (ho : o = s ∨ ¬ 0 < wt i o) : Inv2 n fr at_ wt s seen i (o + 1) T := by
  refine ⟨h.sub, h.done, h.me, h.zero, fun o' h1 h2 h3 => ?_, h.new⟩
  rcases Nat.lt_succ_iff_lt_or_eq.1 h1 with h4 | rfl
  · exact h.mine o' h4 h2 h3
  · rcases ho with h5 | h5
    · exact absurd h5 h2
    · exact absurd h3 h5
theorem Inv2.rec_ (h : Inv2 n fr at_ wt s seen i o T) (hc : CloP n fr at_ wt o T U) : Inv2 n fr at_ wt s seen i (o + 1) U := by
  refine ⟨fun k hk => hc.sub k (h.sub k hk), fun k hk hf => hc.sub k (h.done k hk hf), hc.sub i h.me, h.zero, fun o' h1 h2 h3 j hj hf => ?_, fun k hk hki hU hs => ?_⟩
  · rcases Nat.lt_succ_iff_lt_or_eq.1 h1 with h4 | rfl
    · exact hc.sub j (h.mine o' h4 h2 h3 j hj hf)
    · exact hc.all j hj hf
  · by_cases hT : T.testBit k = true
    · obtain ⟨h1, h2⟩ := h.new k hk hki hT hs
      exact ⟨h1, fun o ho hos hw j hj hf => hc.sub j (h2 o ho hos hw j hj hf)⟩
    · have hT' : T.testBit k = false := by simpa using hT
      obtain ⟨h1, h2⟩ := hc.new k hk hU hT'
      exact ⟨h1, fun o ho _ hw => h2 o ho hw⟩
theorem Inv2.done_ (h : Inv2 n fr at_ wt s seen i n T) : Inv1 n fr at_ wt s seen (i + 1) T := by
  refine ⟨h.sub, fun k hk hf => ?_, fun k hk hT hs => ?_⟩
  · rcases Nat.lt_succ_iff_lt_or_eq.1 hk with h1 | rfl
    · exact h.done k h1 hf
    · exact h.me
  · by_cases e : k = i
    · subst e
      exact ⟨h.zero, fun o ho hos hw => h.mine o ho hos hw⟩
    · exact h.new k hk e hT hs
theorem Inv1.end_ (h : Inv1 n fr at_ wt s seen n T) : CloP n fr at_ wt s seen T := by
  refine ⟨h.sub, h.done, fun k hk hT hs => ?_⟩
  obtain ⟨h1, h2⟩ := h.new k hk hT hs
  refine ⟨h1, fun o ho hw j hj hf => ?_⟩
  by_cases e : o = s
  · subst e; exact h.done j hj hf
  · exact h2 o ho e hw j hj hf
theorem filter_sub {p q : Nat → Bool} (h : ∀ k, p k = true → q k = true) : ∀ l : List Nat, (l.filter p).Sublist (l.filter q)
  | [] => by simp
  | a :: l => by
    have ih := filter_sub h l
    rw [List.filter_cons, List.filter_cons]
    by_cases hp : p a = true
    · rw [if_pos hp, if_pos (h a hp)]
      exact ih.cons_cons _
    · rw [if_neg hp]
      split
      · exact ih.cons _
      · exact ih
/-- How many posts have not been seen. -/
def unS (n S : Nat) : Nat := ((List.range n).filter fun i => !S.testBit i).length
theorem unS_le {S T : Nat} (h : ∀ k, S.testBit k = true → T.testBit k = true) : unS n T ≤ unS n S := by
  unfold unS
  refine List.Sublist.length_le (filter_sub (fun k hk => ?_) _)
  cases h1 : S.testBit k
  · rfl
  · rw [h k h1] at hk
    cases hk
theorem unS_lt {S T : Nat} (h : ∀ k, S.testBit k = true → T.testBit k = true) (hi : i < n) (hS : S.testBit i = false) (hT : T.testBit i = true) : unS n T < unS n S := by
  have hsub : ((List.range n).filter fun i => !T.testBit i).Sublist ((List.range n).filter fun i => !S.testBit i) := filter_sub (fun k hk => by
    cases h1 : S.testBit k
    · rfl
    · rw [h k h1] at hk
      cases hk) _
  rcases Nat.lt_or_ge (unS n T) (unS n S) with h1 | h1
  · exact h1
  · exfalso
    have he := hsub.eq_of_length_le h1
    have h2 : i ∈ (List.range n).filter fun i => !S.testBit i := List.mem_filter.2 ⟨List.mem_range.2 hi, by simp [hS]⟩
    rw [← he] at h2
    have := (List.mem_filter.1 h2).2
    simp [hT] at this
/-- What bringing one more to a spot did: whether, who is where, who was seen. -/
structure Brought (n : Nat) (fr : Nat → Nat → Bool) (posts at_ : Nat → Int) (wt : Nat → Nat → Int) (s seen : Nat) (b : Bool) (at' : Nat → Int) (wt' : Nat → Nat → Int) (T : Nat) : Prop where
  went : Went n fr posts at' wt'
  lt : T < 64
  yes : b = true → (∀ t, t < n → colN n wt' t = colN n wt t + if t = s then 1 else 0) ∧ ∀ i, seen.testBit i = true → at' i = at_ i ∧ ∀ t, wt' i t = wt i t
  no : b = false → at' = at_ ∧ wt' = wt ∧ CloP n fr at_ wt s seen T
theorem went_bd {posts : Nat → Int} (h : Went n fr posts at_ wt) (hp : ∀ i, i < n → posts i ≤ 12) {i s : Nat} (hi : i < n) (hs : s < n) : (0 ≤ at_ i ∧ at_ i ≤ 12) ∧ 0 ≤ wt i s ∧ wt i s ≤ 12 := by
  have h1 := h.free i hi
  have h2 := h.some_ i s hi hs
  have h3 := h.row i hi
  have h4 := hp i hi
  have h5 := sumN_mem (f := wt i) (n := n) (fun t ht => h.some_ i t hi ht) s hs
  have h6 := sumN_nonneg (f := wt i) (n := n) fun t ht => h.some_ i t hi ht
  omega
end
def upd1 (f : Nat → Int) (i : Nat) (v : Int) : Nat → Int := fun k => if k = i then v else f k
def upd2 (g : Nat → Nat → Int) (i s : Nat) (v : Int) : Nat → Nat → Int := fun k t => if k = i ∧ t = s then v else g k t
end Go.Proofs.Ytfebhofihioaoaa
