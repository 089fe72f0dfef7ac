/- A region that draws its order, by what holds at each set of operations that have been. -/
import Derived.Test.YtilmlgngnbokfaaPf
namespace Go.Proofs.Ytilmlgngnbokfaa
set_option linter.unusedVariables false
set_option linter.unusedSimpArgs false
open Go

section
variable {F : Fence} {n : Nat} {P : Program} {ops : Array Oper} {Q : Exit → Act → World → Prop}

def chkI (ops : Array Oper) : Bool := (List.range ops.size).all fun i => match ops[i]? with
  | some o => o.after.all fun e => !Region.binds .any e || decide (e.on < i)
  | none => true

theorem anyIn_of_inv (Inv : (Nat → Bool) → Act → World → Prop) (hchk : chkI ops = true)
    (hstep : ∀ (l : Nat → Bool) a w i o, ops[i]? = some o → l i = false → (∀ e ∈ o.after, Region.binds .any e = true → l e.on = true) → Inv l a w → wpOpIn F n P ops Q i (Inv (fun j => j == i || l j)) a w)
    (hfin : ∀ (l : Nat → Bool) a w, (∀ i, i < ops.size → l i = true) → Inv l a w → Q .normal a w) :
    ∀ (fuel : Nat) (L : Array Bool) (l : Nat → Bool) (a : Act) (w : World), L.size = ops.size → (∀ j, j < ops.size → L.getD j false = l j) → ((List.range ops.size).countP fun i => !l i) ≤ fuel → Inv l a w → wpAnyIn F n P .any ops Q fuel L a w := by
  have hres : ∀ (L : Array Bool) (l : Nat → Bool), L.size = ops.size → (∀ j, j < ops.size → L.getD j false = l j) → Region.ready .any ops L = [] → ∀ i, i < ops.size → l i = true := by
    intro L l hs hl hr i
    induction i using Nat.strongRecOn with
    | _ i ih =>
      intro hi
      cases hli : l i with
      | true => rfl
      | false =>
        exfalso
        have hmem : i ∈ Region.ready .any ops L := by
          refine mem_ready.2 ⟨?_, ops[i], Array.getElem?_eq_getElem hi, fun e he hb => ?_⟩
          · have := hl i hi
            rw [hli] at this
            have hlt : i < L.size := by omega
            simp only [Array.getD, hlt, dite_true] at this ⊢
            exact this
          · have h1 := List.all_eq_true.1 hchk i (List.mem_range.2 hi)
            simp only [Array.getElem?_eq_getElem hi] at h1
            have h2 := Array.all_eq_true'.1 h1 e he
            rw [hb] at h2
            have h3 : e.on < i := by simpa using h2
            rw [hl _ (by omega)]
            exact ih _ h3 (by omega)
        rw [hr] at hmem
        cases hmem
  intro fuel
  induction fuel with
  | zero =>
    intro L l a w hs hl hc hI
    have hall : ∀ i, i < ops.size → l i = true := fun i hi => by
      have h0 : (List.range ops.size).countP (fun i => !l i) = 0 := by omega
      have := List.countP_eq_zero.1 h0 i (List.mem_range.2 hi)
      simpa using this
    refine ⟨?_, hfin l a w hall hI⟩
    refine List.eq_nil_iff_forall_not_mem.2 fun i hi => ?_
    obtain ⟨h1, o, ho, _⟩ := mem_ready.1 hi
    have hlt : i < ops.size := (Array.getElem?_eq_some_iff.1 ho).1
    have h2 := hl i hlt
    rw [hall i hlt] at h2
    have hlt' : i < L.size := by omega
    simp only [Array.getD, hlt', dite_true] at h1 h2
    rw [h1] at h2
    cases h2
  | succ fuel ih =>
    intro L l a w hs hl hc hI
    refine ⟨fun hr => hfin l a w (hres L l hs hl hr) hI, fun i hi => ?_⟩
    obtain ⟨h1, o, ho, hd⟩ := mem_ready.1 hi
    have hlt : i < ops.size := (Array.getElem?_eq_some_iff.1 ho).1
    have hli : l i = false := by
      have h2 := hl i hlt
      have hlt' : i < L.size := by omega
      simp only [Array.getD, hlt', dite_true] at h1 h2
      rw [← h2]; exact h1
    have hdep : ∀ e ∈ o.after, Region.binds .any e = true → l e.on = true := fun e he hb => by
      have h2 := hd e he hb
      have h3 : e.on < L.size := by
        rcases Nat.lt_or_ge e.on L.size with h | h
        · exact h
        · simp [Array.getElem?_eq_none h] at h2
      rw [← hl _ (by omega)]
      exact h2
    refine wpOpIn_mono (fun a' w' h => ih (L.setIfInBounds i true) (fun j => j == i || l j) a' w' (by simpa using hs) (fun j hj => ?_) ?_ h) (hstep l a w i o ho hli hdep hI)
    · by_cases e : j = i
      · subst e
        simp [show j < L.size by omega]
      · rw [getD_set_ne false (Ne.symm e), hl j hj]
        simp [e]
    · have key : ∀ (m : List Nat), m.Nodup → i ∈ m → (m.countP fun j => !(j == i || l j)) + 1 ≤ m.countP fun j => !l j := by
        intro m
        induction m with
        | nil => intro _ h; cases h
        | cons x m ihm =>
          intro hn hm
          obtain ⟨hx, hn'⟩ := List.nodup_cons.1 hn
          rw [List.countP_cons, List.countP_cons]
          have h2 : (m.countP fun j => !(j == i || l j)) ≤ m.countP fun j => !l j := List.countP_mono_left (fun j _ h => by simp at h ⊢; exact h.2)
          by_cases e : x = i
          · subst e
            have e1 : (!(x == x || l x)) = false := by simp
            rw [e1, hli]
            simp only [Bool.not_false, if_true, Bool.false_eq_true, if_false]
            omega
          · have e1 : (!(x == i || l x)) = !l x := by simp [e]
            rw [e1]
            rcases List.mem_cons.1 hm with h | h
            · exact absurd h.symm e
            · have := ihm hn' h
              omega
      have := key (List.range ops.size) List.nodup_range (List.mem_range.2 hlt)
      omega

/-- **A region that draws its order, by an invariant.** -/
theorem wpIn_region_inv {id : Nat} {a : Act} {w : World} (Inv : (Nat → Bool) → Act → World → Prop) (hm : P.follows .mixedOrders = true) (hchk : chkI ops = true) (h0 : Inv (fun _ => false) a w.drew)
    (hstep : ∀ (l : Nat → Bool) a w i o, ops[i]? = some o → l i = false → (∀ e ∈ o.after, Region.binds .any e = true → l e.on = true) → Inv l a w → wpOpIn F n P ops Q i (Inv (fun j => j == i || l j)) a w)
    (hfin : ∀ (l : Nat → Bool) a w, (∀ i, i < ops.size → l i = true) → Inv l a w → Q .normal a w) : (Code.region id ops true).wpIn F n P Q a w := by
  refine wpIn_region_any hm ?_
  refine anyIn_of_inv Inv hchk hstep hfin ops.size _ (fun _ => false) a _ (by simp) (fun j hj => by simp [hj]) ?_ h0
  simp

/-- One operation of it: a light one, or a heavy one. -/
theorem opI {i : Nat} {a : Act} {w : World} {o : Oper} {J : Act → World → Prop} (ho : ops[i]? = some o) (hg : o.guard = none) (h : ∀ K : Act → World → Prop, (∀ a' w', J a' w' → K a' w') → o.wpIn F n P a w K Q) : wpOpIn F n P ops Q i J a w := by
  unfold wpOpIn
  simp only [ho, Region.wanted, hg, if_true]
  exact h J (fun _ _ h => h)
end
end Go.Proofs.Ytilmlgngnbokfaa
