/- A region that draws its order, by a plan: the light operations ahead where they may be, the heavy ones in each order that they may have. -/
import Derived.Test.YtilmlgngnbokfaaPh
namespace Go.Proofs.Ytilmlgngnbokfaa
set_option linter.unusedVariables false
set_option linter.unusedSimpArgs false
open Go

inductive Plan where
  | fin : Plan
  | one (i : Nat) (p : Plan) : Plan
  | two (i : Nat) (p : Plan) (j : Nat) (q : Plan) : Plan

namespace Plan
def len : Plan → Nat
  | .fin => 0
  | .one _ p => p.len + 1
  | .two _ p _ _ => p.len + 1
def ons : List Nat → Plan → Plan
  | [], p => p
  | i :: l, p => .one i (ons l p)
/-- No held operation in it. -/
def free (held : Nat → Bool) : Plan → Bool
  | .fin => true
  | .one i p => !held i && free held p
  | .two i p j q => !held i && !held j && (free held p && free held q)
end Plan

section
variable {F : Fence} {n : Nat} {P : Program} {ops : Array Oper} {Q : Exit → Act → World → Prop} {md : Region.Mode}

def ordQ (F : Fence) (n : Nat) (P : Program) (ops : Array Oper) (hv cl held : Nat → Bool) (C : World → Prop) (Q : Exit → Act → World → Prop) : Plan → Act → World → Prop
  | .fin, a, w => Q .normal a w
  | .one i p, a, w =>
    if hv i then wpOpIn F n P ops Q i (fun a' w' => (cl i = false → C w') ∧ ordQ F n P ops hv cl held C Q p a' w') a w
    else match ops[i]? with
      | none => False
      | some o => ∃ v, (∀ W, (if held i then C W else W = w) → LiYields P ops o v a W) ∧ ordQ F n P ops hv cl held C Q p (a.put o.dst v) w
  | .two i p j q, a, w => wpOpIn F n P ops Q i (fun a' w' => (cl i = false → C w') ∧ ordQ F n P ops hv cl held C Q p a' w') a w ∧ wpOpIn F n P ops Q j (fun a' w' => (cl j = false → C w') ∧ ordQ F n P ops hv cl held C Q q a' w') a w

def chkQ (md : Region.Mode) (ops : Array Oper) (hv cl held : Nat → Bool) : Plan → List Nat → Array Bool → Bool
  | .fin, _, L => (Region.ready md ops L).isEmpty
  | .one i p, pre, L => (Region.ready md ops L).contains i &&
      (if hv i then decide (Region.ready md ops L = [i]) && (!cl i || p.free held) else Region.free md ops L i && (if held i then (List.range ops.size).all fun h => !cl h || ancB md ops ops.size h i else (List.range ops.size).all fun h => !hv h || pre.contains h || ancB md ops ops.size h i)) &&
      chkQ md ops hv cl held p (i :: pre) (L.setIfInBounds i true)
  | .two i p j q, pre, L => hv i && hv j && ((!cl i || p.free held) && (!cl j || q.free held)) && (decide (Region.ready md ops L = [i, j]) && decide (p.len = q.len)) &&
      (chkQ md ops hv cl held p (i :: pre) (L.setIfInBounds i true) && chkQ md ops hv cl held q (j :: pre) (L.setIfInBounds j true))

theorem anyP_of_plan {hv cl held : Nat → Bool} {C : World → Prop} (hro : F.round = none) (hns : Region.noSelect ops = true) (hQ : ∀ c (d : Option Tmp) (v : Value) a w, Q (.panic c) (a.put d v) w → Q (.panic c) a w) :
    ∀ (pl : Plan) (pre : List Nat) (L : Array Bool) (a : Act) (w : World), ClosedL md ops L → (∀ i ∈ pre, L.getD i false = true) → chkQ md ops hv cl held pl pre L = true → (pl.free held = false → C w) →
      ordQ F n P ops hv cl held C Q pl a w → anyP F n P md ops hv cl C Q pl.len L a w
  | .fin, pre, L, a, w, _, _, hB, _, h => ⟨by simpa [chkQ] using hB, h⟩
  | .one i p, pre, L, a, w, hc, hp, hB, hC, h => by
    have hsel := Region.noSelect_spec hns
    simp only [chkQ, Bool.and_eq_true] at hB
    obtain ⟨⟨hr, hi⟩, hB'⟩ := hB
    have hr' : i ∈ Region.ready md ops L := by simpa using hr
    have hset : ∀ k ∈ i :: pre, (L.setIfInBounds i true).getD k false = true := by
      intro k hk
      rcases List.mem_cons.1 hk with rfl | hk
      · have := (mem_ready.1 hr').1
        rcases Nat.lt_or_ge k L.size with hl | hl
        · simp [hl]
        · simp [Array.getElem?_eq_none hl] at this
      · exact getD_set_true (hp k hk)
    unfold ordQ at h
    cases hv' : hv i with
    | true =>
      rw [hv'] at h hi
      simp only [if_true, Bool.and_eq_true, Bool.or_eq_true, decide_eq_true_eq] at h hi
      refine ⟨fun h0 => (by rw [h0] at hr'; cases hr'), fun j hj => ?_⟩
      rw [hi.1] at hj
      obtain rfl : j = i := by simpa using hj
      refine wpOpIn_mono (fun a' w' h' => ⟨fun h0 => (by rw [hv'] at h0; cases h0), fun h0 _ => h'.1 h0, ?_⟩) h
      refine anyP_of_plan hro hns hQ p (j :: pre) _ a' w' (closed_set hc hr') hset hB' (fun hf => h'.1 ?_) h'.2
      rcases hi.2 with h1 | h1
      · simpa using h1
      · rw [h1] at hf; cases hf
    | false =>
      rw [hv'] at h hi
      simp only [Bool.false_eq_true, if_false, Bool.and_eq_true] at h hi
      cases ho : ops[i]? with
      | none => rw [ho] at h; exact h.elim
      | some o =>
        rw [ho] at h
        obtain ⟨v, hy, hrest⟩ := h
        refine anyP_first (cl := cl) (C := C) (D := fun W => if held i then C W else W = w) (Inv := fun L' => ClosedL md ops L' ∧ ∀ k ∈ pre, L'.getD k false = true) hro ho hv' hsel (fun c a w => hQ c o.dst v a w)
          (fun L' j hI hj => ⟨closed_set hI.1 hj, fun k hk => getD_set_true (hI.2 k hk)⟩) ?_ p.len L a w ⟨hc, hp⟩ (Region.free_spec ho hi.1) hr' ?_ hy ?_
        · intro L' j hI hun hj hne w1 w2 hs hcc hD
          have hno : ∀ {b : Nat}, ancB md ops b j i = true → False := fun h1 => by
            have := anc_listed hI.1 _ j i h1 (.inr hj)
            rcases Nat.lt_or_ge i L'.size with h' | h'
            · simp [h'] at hun this; rw [hun] at this; cases this
            · simp [Array.getElem?_eq_none h'] at this
          obtain ⟨hjun, oj, hoj, _⟩ := mem_ready.1 hj
          have hjlt : j < ops.size := (Array.getElem?_eq_some_iff.1 hoj).1
          cases hh : held i with
          | true =>
            rw [hh] at hD hi
            simp only [if_true] at hD hi ⊢
            refine hcc ?_ hD
            cases hcl : cl j with
            | false => rfl
            | true =>
              have h1 := List.all_eq_true.1 hi.2 j (List.mem_range.2 hjlt)
              rw [hcl] at h1
              exact (hno (by simpa using h1)).elim
          | false =>
            rw [hh] at hD hi
            simp only [Bool.false_eq_true, if_false] at hD hi ⊢
            have hlight : hv j = false := by
              cases hvj : hv j with
              | false => rfl
              | true =>
                have h1 := List.all_eq_true.1 hi.2 j (List.mem_range.2 hjlt)
                simp only [Bool.or_eq_true, Bool.not_eq_true', hvj] at h1
                rcases h1 with (h1 | h1) | h1
                · cases h1
                · have := hI.2 j (by simpa using h1)
                  rcases Nat.lt_or_ge j L'.size with h' | h'
                  · simp [h'] at hjun this; rw [hjun] at this; cases this
                  · simp [Array.getElem?_eq_none h'] at this
                · exact (hno h1).elim
            rw [hs hlight, hD]
        · cases hh : held i with
          | true => simpa using hC (by simp [Plan.free, hh])
          | false => simp
        · exact anyP_of_plan hro hns hQ p (i :: pre) _ _ w (closed_set hc hr') hset hB' (fun hf => hC (by simp [Plan.free, hf])) hrest
  | .two i p j q, pre, L, a, w, hc, hp, hB, hC, h => by
    simp only [chkQ, Bool.and_eq_true, decide_eq_true_eq, Bool.or_eq_true] at hB
    obtain ⟨⟨⟨⟨hvi, hvj⟩, hfi, hfj⟩, hr, hpq⟩, hB1, hB2⟩ := hB
    have hri : i ∈ Region.ready md ops L := by rw [hr]; simp
    have hrj : j ∈ Region.ready md ops L := by rw [hr]; simp
    have hset : ∀ i, i ∈ Region.ready md ops L → ∀ k ∈ i :: pre, (L.setIfInBounds i true).getD k false = true := by
      intro i hri k hk
      rcases List.mem_cons.1 hk with rfl | hk
      · have := (mem_ready.1 hri).1
        rcases Nat.lt_or_ge k L.size with hl | hl
        · simp [hl]
        · simp [Array.getElem?_eq_none hl] at this
      · exact getD_set_true (hp k hk)
    unfold ordQ at h
    refine ⟨fun h0 => (by rw [h0] at hri; cases hri), fun m hm => ?_⟩
    rw [hr] at hm
    rcases List.mem_cons.1 hm with rfl | hm
    · refine wpOpIn_mono (fun a' w' h' => ⟨fun h0 => (by rw [hvi] at h0; cases h0), fun h0 _ => h'.1 h0, ?_⟩) h.1
      refine anyP_of_plan hro hns hQ p (m :: pre) _ a' w' (closed_set hc hri) (hset _ hri) hB1 (fun hf => h'.1 ?_) h'.2
      rcases hfi with h1 | h1
      · simpa using h1
      · rw [h1] at hf; cases hf
    · obtain rfl : m = j := by simpa using hm
      refine wpOpIn_mono (fun a' w' h' => ⟨fun h0 => (by rw [hvj] at h0; cases h0), fun h0 _ => h'.1 h0, ?_⟩) h.2
      have := anyP_of_plan hro hns hQ q (m :: pre) _ a' w' (closed_set hc hrj) (hset _ hrj) hB2 (fun hf => h'.1 (by
        rcases hfj with h1 | h1
        · simpa using h1
        · rw [h1] at hf; cases hf)) h'.2
      rw [← hpq] at this
      exact this

def chkF (ops : Array Oper) (cl held : Nat → Bool) (pl : Plan) : Bool :=
  Region.noSelect ops && decide (pl.len = ops.size) && chkQ .any ops (heavyAt ops) cl held pl [] (Array.replicate ops.size false)

/-- **A region that draws its order, by a plan.** -/
theorem wpIn_region_plan {id : Nat} {a : Act} {w : World} (pl : Plan) (held : List Nat) (C : World → Prop) (cl : List Nat) (hro : F.round = none) (hm : P.follows .mixedOrders = true)
    (hB : chkF ops (fun i => cl.contains i) (fun i => held.contains i) pl = true)
    (hQ : ∀ c (d : Option Tmp) (v : Value) a w, Q (.panic c) (a.put d v) w → Q (.panic c) a w) (hC : C w.drew)
    (h : ordQ F n P ops (heavyAt ops) (fun i => cl.contains i) (fun i => held.contains i) C Q pl a w.drew) : (Code.region id ops true).wpIn F n P Q a w := by
  unfold chkF at hB
  simp only [Bool.and_eq_true, decide_eq_true_eq] at hB
  refine wpIn_region_any hm ?_
  have H := wpAnyIn_of_anyP (hv := heavyAt ops) (cl := fun i => cl.contains i) (C := C) _ _ _ _ (anyP_of_plan hro hB.1.1 hQ pl [] (Array.replicate ops.size false) a _ (fun j oj _ hl => by
    rcases Nat.lt_or_ge j ops.size with h' | h'
    · simp [h'] at hl
    · simp [h'] at hl) (fun _ h => by cases h) hB.2 (fun _ => hC) h)
  rw [hB.1.2] at H
  exact H

theorem ordQ_fin {hv cl held : Nat → Bool} {C : World → Prop} {a : Act} {w : World} (h : Q .normal a w) : ordQ F n P ops hv cl held C Q .fin a w := h
/-- A light operation where it stands. -/
theorem ordQ_li {cl held : Nat → Bool} {C : World → Prop} {i : Nat} {p : Plan} {a : Act} {w : World} {o : Oper} (ho : ops[i]? = some o) (hh : heavyOp o.op = false) (hheld : held i = false)
    (h : ∀ K : Act → Prop, (∀ a', ordQ F n P ops (heavyAt ops) cl held C Q p a' w → K a') → if Region.wanted o (yielded ops a.tmps) = true then o.about P w a.eval = none ∧ liUpon w (fun v => K (a.put o.dst v)) ((execOp a.eval o).run P w) else o.about P w a.eval = none ∧ K (a.put o.dst undef)) :
    ordQ F n P ops (heavyAt ops) cl held C Q (.one i p) a w := by
  have h := h (fun a' => ordQ F n P ops (heavyAt ops) cl held C Q p a' w) (fun _ h => h)
  unfold ordQ
  have hv : heavyAt ops i = false := by unfold heavyAt; rw [ho]; exact hh
  simp only [hv, Bool.false_eq_true, if_false, ho, hheld]
  split at h
  · rename_i hw
    obtain ⟨hab, h⟩ := h
    generalize hr : (execOp a.eval o).run P w = r at h
    unfold liUpon at h
    split at h
    · obtain ⟨rfl, h⟩ := h
      exact ⟨_, fun W hW => by subst hW; exact ⟨.inl ⟨hw, hr⟩, hab⟩, h⟩
    · exact h.elim
  · rename_i hw
    exact ⟨undef, fun W hW => by subst hW; exact ⟨.inr ⟨by simpa using hw, rfl⟩, h.1⟩, h.2⟩
/-- A light operation that may come up later: in each world of C it hands back the same. -/
theorem ordQ_held {cl held : Nat → Bool} {C : World → Prop} {i : Nat} {p : Plan} {a : Act} {w : World} {o : Oper} (v : Value) (ho : ops[i]? = some o) (hh : heavyOp o.op = false) (hheld : held i = true) (hw : o.guard = none)
    (hy : ∀ W, C W → o.about P W a.eval = none ∧ liUpon W (fun u => u = v) ((execOp a.eval o).run P W))
    (h : ∀ K : Act → Prop, (∀ a', ordQ F n P ops (heavyAt ops) cl held C Q p a' w → K a') → K (a.put o.dst v)) :
    ordQ F n P ops (heavyAt ops) cl held C Q (.one i p) a w := by
  have h := h (fun a' => ordQ F n P ops (heavyAt ops) cl held C Q p a' w) (fun _ h => h)
  unfold ordQ
  have hv : heavyAt ops i = false := by unfold heavyAt; rw [ho]; exact hh
  simp only [hv, Bool.false_eq_true, if_false, ho, hheld, if_true]
  refine ⟨v, fun W hW => ?_, h⟩
  obtain ⟨hab, h1⟩ := hy W hW
  generalize hr : (execOp a.eval o).run P W = r at h1
  unfold liUpon at h1
  split at h1
  · obtain ⟨rfl, rfl⟩ := h1
    exact ⟨.inl ⟨by simp [Region.wanted, hw], hr⟩, hab⟩
  · exact h1.elim
theorem ordQ_hv {cl held : Nat → Bool} {C : World → Prop} {i : Nat} {p : Plan} {a : Act} {w : World} {o : Oper} (ho : ops[i]? = some o) (hh : heavyOp o.op = true) (hg : o.guard = none)
    (h : ∀ K : Act → World → Prop, (∀ a' w', (cl i = false → C w') → ordQ F n P ops (heavyAt ops) cl held C Q p a' w' → K a' w') → o.wpIn F n P a w K Q) : ordQ F n P ops (heavyAt ops) cl held C Q (.one i p) a w := by
  have h := h (fun a' w' => (cl i = false → C w') ∧ ordQ F n P ops (heavyAt ops) cl held C Q p a' w') (fun _ _ h1 h => ⟨h1, h⟩)
  unfold ordQ
  have hv : heavyAt ops i = true := by unfold heavyAt; rw [ho]; exact hh
  simp only [hv, if_true]
  unfold wpOpIn
  simp only [ho, Region.wanted, hg, if_true]
  exact h
theorem ordQ_two {cl held : Nat → Bool} {C : World → Prop} {i j : Nat} {p q : Plan} {a : Act} {w : World} {o o2 : Oper} (ho : ops[i]? = some o) (hg : o.guard = none) (ho2 : ops[j]? = some o2) (hg2 : o2.guard = none)
    (h : ∀ K : Act → World → Prop, (∀ a' w', (cl i = false → C w') → ordQ F n P ops (heavyAt ops) cl held C Q p a' w' → K a' w') → o.wpIn F n P a w K Q)
    (h2 : ∀ K : Act → World → Prop, (∀ a' w', (cl j = false → C w') → ordQ F n P ops (heavyAt ops) cl held C Q q a' w' → K a' w') → o2.wpIn F n P a w K Q) :
    ordQ F n P ops (heavyAt ops) cl held C Q (.two i p j q) a w := by
  have h := h (fun a' w' => (cl i = false → C w') ∧ ordQ F n P ops (heavyAt ops) cl held C Q p a' w') (fun _ _ h1 h => ⟨h1, h⟩)
  have h2 := h2 (fun a' w' => (cl j = false → C w') ∧ ordQ F n P ops (heavyAt ops) cl held C Q q a' w') (fun _ _ h1 h => ⟨h1, h⟩)
  unfold ordQ wpOpIn
  simp only [ho, ho2, Region.wanted, hg, hg2, if_true]
  exact ⟨h, h2⟩
end
end Go.Proofs.Ytilmlgngnbokfaa
