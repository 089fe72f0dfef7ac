/- Links, plain: a longer watch, and a wider Own. -/
import Derived.Test.YtijgfdncocjncaaL4
namespace Go.Proofs.Ytijgfdncocjncaa
set_option linter.unusedVariables false
set_option linter.unusedSimpArgs false
open Go Go.RowKit

theorem filter_sub {p q : Nat → Bool} (h : ∀ i, p i = true → q i = true) : ∀ l : List Nat, (l.filter p).Sublist (l.filter q)
  | [] => by simp
  | a :: l => by
    have ih := filter_sub h l
    cases hp : p a with
    | true => rw [List.filter_cons_of_pos hp, List.filter_cons_of_pos (h a hp)]; exact ih.cons_cons a
    | false =>
      rw [List.filter_cons_of_neg (by simp [hp])]
      cases hq : q a with
      | true => rw [List.filter_cons_of_pos hq]; exact ih.cons a
      | false => rw [List.filter_cons_of_neg (by simp [hq])]; exact ih
/-! With one eruption more behind the end. -/
def longW (x : Wat) (s e2 en2 : Int) : Wat := ⟨x.hb, x.er ++ [(s, e2)], en2⟩
section
variable {x : Wat} {s e2 en2 : Int}
theorem longW_m : (longW x s e2 en2).m = x.m + 1 := by simp [longW, Wat.m]
theorem longW_sp {i : Nat} (h : i < x.m) : (longW x s e2 en2).sp i = x.sp i := by
  unfold Wat.sp longW
  simp only [List.getD_eq_getElem?_getD]
  rw [List.getElem?_append_left h]
theorem longW_tm {i : Nat} (h : i < x.m) : (longW x s e2 en2).tm i = x.tm i := by
  unfold Wat.tm longW
  simp only [List.getD_eq_getElem?_getD]
  rw [List.getElem?_append_left h]
theorem longW_sp' : (longW x s e2 en2).sp x.m = s := by
  unfold Wat.sp longW Wat.m
  simp
theorem longW_tm' : (longW x s e2 en2).tm x.m = e2 := by
  unfold Wat.tm longW Wat.m
  simp
theorem longW_ok (hx : WatOk x) (hm : x.m + 1 ≤ 64) (h1 : x.en < e2) (h2 : e2 ≤ en2) (h3 : en2 ≤ 1048576) (hs : 0 ≤ s ∧ s ≤ (x.n : Int) - 1) : WatOk (longW x s e2 en2) := by
  have hen := hx.en
  refine ⟨hx.n6, by rw [longW_m]; exact hm, ⟨show (0 : Int) ≤ en2 by omega, h3⟩, fun k hk => ⟨(hx.hab k hk).own, (hx.hab k hk).del⟩, fun i hi => ?_⟩
  rw [longW_m] at hi
  have hn : (longW x s e2 en2).n = x.n := rfl
  have hen2 : (longW x s e2 en2).en = en2 := rfl
  by_cases e : i < x.m
  · have h := hx.eru i e
    refine ⟨by rw [longW_sp e, hn]; exact h.sp, ?_, fun h0 => ?_, fun k hk => ?_⟩
    · rw [longW_tm e, hen2]
      have := h.tm
      omega
    · rw [longW_tm e, longW_tm (by omega)]
      exact h.mono h0
    · rw [longW_sp e, longW_tm e, longW_sp (by omega), longW_tm (by omega)]
      exact h.dist k hk
  · obtain rfl : i = x.m := by omega
    refine ⟨by rw [longW_sp', hn]; exact hs, ?_, fun h0 => ?_, fun k hk => ?_⟩
    · rw [longW_tm', hen2]; omega
    · rw [longW_tm', longW_tm (by omega)]
      have := (hx.eru (x.m - 1) (by omega)).tm
      omega
    · rw [longW_sp', longW_tm', longW_sp hk, longW_tm hk]
      have := (hx.eru k hk).tm
      omega
theorem longW_fol {f t b a : Nat} (ha : a < x.m) (hb : b < x.m) : folB (longW x s e2 en2) f t b a = folB x f t b a := by
  unfold folB
  rw [longW_sp ha, longW_sp hb, longW_tm ha, longW_tm hb]
  rfl
theorem refB_iff {f t a : Nat} : refB x f t a = true ↔ x.sp a = (f : Int) ∧ x.tm a + x.dh t ≤ x.en ∧ ∀ k, k < x.m → folB x f t k a = false := by
  unfold refB
  simp only [Bool.and_eq_true, beq_iff_eq, decide_eq_true_eq, Bool.not_eq_true', List.any_eq_false, List.mem_range, Bool.not_eq_true]
theorem ref_iff {f t a : Nat} : ref x f t = some a ↔ a < x.m ∧ refB x f t a = true ∧ ∀ j, j < a → refB x f t j = false := by
  unfold ref
  rw [List.find?_range_eq_some]
  simp only [List.mem_range, Bool.not_eq_true']
  exact ⟨fun ⟨h1, h2, h3⟩ => ⟨h2, h1, h3⟩, fun ⟨h1, h2, h3⟩ => ⟨h2, h1, h3⟩⟩
theorem longW_ref (hx : WatOk x) (h1 : x.en < e2) (h2 : e2 ≤ en2) {f t a : Nat} (h : ref x f t = some a) : ref (longW x s e2 en2) f t = some a := by
  obtain ⟨ha, hr, hj⟩ := ref_iff.1 h
  obtain ⟨r1, r2, r3⟩ := refB_iff.1 hr
  have hdh : (longW x s e2 en2).dh t = x.dh t := rfl
  have hen2 : (longW x s e2 en2).en = en2 := rfl
  refine ref_iff.2 ⟨by rw [longW_m]; omega, refB_iff.2 ⟨by rw [longW_sp ha]; exact r1, by rw [longW_tm ha, hdh, hen2]; omega, fun k hk => ?_⟩, fun j hja => ?_⟩
  · rw [longW_m] at hk
    by_cases e : k < x.m
    · rw [longW_fol ha e]
      exact r3 k e
    · obtain rfl : k = x.m := by omega
      cases hf : folB (longW x s e2 en2) f t x.m a with
      | false => rfl
      | true =>
        unfold folB at hf
        simp only [Bool.and_eq_true] at hf
        have h4 := hf.2.2
        unfold inB at h4
        simp only [Bool.and_eq_true, decide_eq_true_eq] at h4
        rw [longW_tm', longW_tm ha, hdh] at h4
        omega
  · have hjm : j < x.m := by omega
    cases hf : refB (longW x s e2 en2) f t j with
    | false => rfl
    | true =>
      obtain ⟨q1, q2, q3⟩ := refB_iff.1 hf
      have : refB x f t j = true := refB_iff.2 ⟨by rw [longW_sp hjm] at q1; exact q1, by have := hx.sorted a j (by omega) ha; omega, fun k hk => by
        have h := q3 k (by rw [longW_m]; omega)
        rwa [longW_fol hjm hk] at h⟩
      rw [hj j hja] at this
      cases this
end
/-! With a wider Own. -/
def wideW (x : Wat) (k : Nat) (lo hi : Int) : Wat := ⟨x.hb.set k (lo, hi, x.dl k, x.dh k), x.er, x.en⟩
section
variable {x : Wat} {k : Nat} {lo hi : Int}
theorem wideW_n : (wideW x k lo hi).n = x.n := by simp [wideW, Wat.n]
theorem wideW_get (hk : k < x.n) (t : Nat) : (wideW x k lo hi).hb.getD t (0, 0, 0, 0) = if t = k then (lo, hi, x.dl k, x.dh k) else x.hb.getD t (0, 0, 0, 0) := by
  unfold wideW
  simp only [List.getD_eq_getElem?_getD, List.getElem?_set]
  have hk' : k < x.hb.length := hk
  by_cases e : t = k
  · subst e
    simp [hk']
  · simp [e, Ne.symm e]
theorem wideW_dl (hk : k < x.n) (t : Nat) : (wideW x k lo hi).dl t = x.dl t := by
  unfold Wat.dl
  rw [wideW_get hk]
  by_cases e : t = k
  · subst e; rw [if_pos rfl]; rfl
  · rw [if_neg e]
theorem wideW_dh (hk : k < x.n) (t : Nat) : (wideW x k lo hi).dh t = x.dh t := by
  unfold Wat.dh
  rw [wideW_get hk]
  by_cases e : t = k
  · subst e; rw [if_pos rfl]; rfl
  · rw [if_neg e]
theorem wideW_ol (hk : k < x.n) (t : Nat) : (wideW x k lo hi).ol t = if t = k then lo else x.ol t := by
  unfold Wat.ol
  rw [wideW_get hk]
  by_cases e : t = k
  · rw [if_pos e, if_pos e]
  · rw [if_neg e, if_neg e]
theorem wideW_oh (hk : k < x.n) (t : Nat) : (wideW x k lo hi).oh t = if t = k then hi else x.oh t := by
  unfold Wat.oh
  rw [wideW_get hk]
  by_cases e : t = k
  · rw [if_pos e, if_pos e]
  · rw [if_neg e, if_neg e]
theorem wideW_ok (hx : WatOk x) (hk : k < x.n) (h : lo ≤ hi → 0 ≤ lo ∧ hi ≤ 1048576) : WatOk (wideW x k lo hi) := by
  refine ⟨by rw [wideW_n]; exact hx.n6, hx.m64, hx.en, fun t ht => ?_, fun i hi => ?_⟩
  · rw [wideW_n] at ht
    have h1 := hx.hab t ht
    refine ⟨?_, by rw [wideW_dl hk, wideW_dh hk]; exact h1.del⟩
    rw [wideW_ol hk, wideW_oh hk]
    by_cases e : t = k
    · rw [if_pos e, if_pos e]; exact h
    · rw [if_neg e, if_neg e]; exact h1.own
  · have h1 := hx.eru i hi
    refine ⟨?_, h1.tm, h1.mono, h1.dist⟩
    rw [wideW_n]
    exact h1.sp
theorem wideW_fol (hk : k < x.n) (f t b a : Nat) : folB (wideW x k lo hi) f t b a = folB x f t b a := by
  unfold folB
  rw [wideW_dl hk, wideW_dh hk]
  rfl
theorem wideW_ref (hk : k < x.n) (f t : Nat) : ref (wideW x k lo hi) f t = ref x f t := by
  unfold ref
  have e : refB (wideW x k lo hi) f t = refB x f t := by
    funext a
    unfold refB
    rw [wideW_dh hk]
    have : (fun j => folB (wideW x k lo hi) f t j a) = fun j => folB x f t j a := funext fun j => wideW_fol hk f t j a
    rw [this]
    rfl
  rw [e]
  rfl
theorem wideW_exp (hk : k < x.n) (f t b : Nat) : expB (wideW x k lo hi) f t b = expB x f t b := by
  unfold expB
  have : (fun a => folB (wideW x k lo hi) f t b a) = fun a => folB x f t b a := funext fun a => wideW_fol hk f t b a
  rw [this]
  rfl
theorem wideW_srcs (hk : k < x.n) (t : Nat) : srcs (wideW x k lo hi) t = srcs x t := by
  unfold srcs srcTo
  rw [wideW_n]
  have : (fun f => f != t && (ref (wideW x k lo hi) f t).isNone) = fun f => f != t && (ref x f t).isNone := funext fun f => by rw [wideW_ref hk]
  rw [this]
theorem wideW_prev (s : Int) : ∀ i, prevTo (wideW x k lo hi) s i = prevTo x s i
  | 0 => rfl
  | i + 1 => by
    unfold prevTo
    rw [wideW_prev s i]
    rfl
theorem wideW_need (hk : k < x.n) (h1 : x.ol k ≤ x.oh k → lo ≤ x.ol k ∧ x.oh k ≤ hi) {i : Nat} (h : needB (wideW x k lo hi) i = true) : needB x i = true := by
  unfold needB at h ⊢
  have e1 : (wideW x k lo hi).sp i = x.sp i := rfl
  have e2 : ∀ j, (wideW x k lo hi).tm j = x.tm j := fun j => rfl
  rw [e1, wideW_prev, e2, e2, wideW_ol hk, wideW_oh hk, Bool.and_eq_true] at h
  rw [Bool.and_eq_true]
  refine ⟨h.1, ?_⟩
  have h2 := h.2
  by_cases e : (x.sp i).toNat = k
  · rw [if_pos e, if_pos e] at h2
    rw [e]
    simp only [Bool.not_eq_true'] at h2 ⊢
    unfold inB at h2 ⊢
    rw [Bool.and_eq_false_iff, decide_eq_false_iff_not, decide_eq_false_iff_not] at h2 ⊢
    omega
  · rwa [if_neg e, if_neg e] at h2
theorem wideW_en (hk : k < x.n) (h1 : x.ol k ≤ x.oh k → lo ≤ x.ol k ∧ x.oh k ≤ hi) {t : Nat} {l : List Nat} (h : enB x t l = true) : enB (wideW x k lo hi) t l = true := enB_iff.2 fun i hi hs hn => by
  obtain ⟨f, hf, he⟩ := enB_iff.1 h i hi hs (wideW_need hk h1 hn)
  exact ⟨f, hf, by rw [wideW_exp hk]; exact he⟩
theorem wideW_few (hk : k < x.n) (h1 : x.ol k ≤ x.oh k → lo ≤ x.ol k ∧ x.oh k ≤ hi) {o : List (Int × Int)} (ho : fewTo x x.n = some o) : ∃ o2, fewTo (wideW x k lo hi) (wideW x k lo hi).n = some o2 ∧ o2.length ≤ o.length := by
  rw [wideW_n]
  cases h : fewTo (wideW x k lo hi) x.n with
  | none =>
    obtain ⟨t, ht, h2⟩ := fewTo_noneI.1 h
    rw [wideW_srcs hk] at h2
    obtain ⟨P, rfl, hP⟩ := fewTo_some ho
    have h3 := wideW_en hk h1 (lo := lo) (hi := hi) (enB_mono (fun f hf => (fewT_some (hP t ht)).1.subset hf) (fewT_some (hP t ht)).2 : enB x t (srcs x t) = true)
    rw [h2] at h3
    cases h3
  | some o2 =>
    refine ⟨o2, rfl, ?_⟩
    obtain ⟨P, rfl, hP⟩ := fewTo_some ho
    obtain ⟨Q, rfl, hQ⟩ := fewTo_some h
    refine lnkTo_len_le fun t ht => fewT_least (hQ t ht) ?_ (wideW_en hk h1 (fewT_some (hP t ht)).2)
    rw [wideW_srcs hk]
    exact (fewT_some (hP t ht)).1
theorem wideW_lck (hk : k < x.n) (h1 : x.ol k ≤ x.oh k → lo ≤ x.ol k ∧ x.oh k ≤ hi) {i : Nat} (h : lckB (wideW x k lo hi) i = true) : lckB x i = true := by
  unfold lckB at h ⊢
  rw [Bool.and_eq_true] at h ⊢
  refine ⟨wideW_need hk h1 h.1, ?_⟩
  have h2 := h.2
  have e1 : (wideW x k lo hi).sp i = x.sp i := rfl
  rw [e1, wideW_srcs hk] at h2
  have : (fun f => expB (wideW x k lo hi) f (x.sp i).toNat i) = fun f => expB x f (x.sp i).toNat i := funext fun f => wideW_exp hk f _ i
  rwa [this] at h2
theorem wideW_lckTo (hk : k < x.n) (h1 : x.ol k ≤ x.oh k → lo ≤ x.ol k ∧ x.oh k ≤ hi) : (lckTo (wideW x k lo hi) x.m).length ≤ (lckTo x x.m).length ∧ ∀ i, i ∈ lckTo (wideW x k lo hi) x.m → i ∈ lckTo x x.m := by
  have key : (lckTo (wideW x k lo hi) x.m).Sublist (lckTo x x.m) := by
    unfold lckTo
    exact filter_sub (fun i h => wideW_lck hk h1 h) _
  exact ⟨key.length_le, fun i hi => key.subset hi⟩
end
end Go.Proofs.Ytijgfdncocjncaa
