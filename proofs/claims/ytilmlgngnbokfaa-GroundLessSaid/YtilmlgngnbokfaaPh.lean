/- A region that draws its order, read in the order of the text: inside a fence. -/
import Derived.OrdersIn
import Derived.RegionIn
import Derived.WalkKit
namespace Go.Proofs.Ytilmlgngnbokfaa
set_option linter.unusedVariables false
set_option linter.unusedSimpArgs false
open Go

section
variable {F : Fence} {n : Nat} {P : Program} {ops : Array Oper} {Q : Exit → Act → World → Prop} {md : Region.Mode}

/-- An operation that leaves the world alone hands back v. -/
def LiYields (P : Program) (ops : Array Oper) (o : Oper) (v : Value) (a : Act) (w : World) : Prop :=
  ((Region.wanted o (yielded ops a.tmps) = true ∧ (execOp a.eval o).run P w = .ok (.value v) w) ∨ (Region.wanted o (yielded ops a.tmps) = false ∧ v = undef)) ∧ o.about P w a.eval = none

theorem LiYields.of_same {o : Oper} {v : Value} {a a' : Act} {w : World} (hy : LiYields P ops o v a w) (he : execOp a'.eval o = execOp a.eval o)
    (hw : Region.wanted o (yielded ops a'.tmps) = Region.wanted o (yielded ops a.tmps)) (hb : o.about P w a'.eval = o.about P w a.eval) : LiYields P ops o v a' w := by
  unfold LiYields at *
  rw [he, hw, hb]
  exact hy

theorem LiYields.wpOpIn {i : Nat} {o : Oper} {v : Value} {a : Act} {w : World} (hro : F.round = none) (hi : ops[i]? = some o) (hy : LiYields P ops o v a w)
    {K : Act → World → Prop} (h : K (a.put o.dst v) w) : wpOpIn F n P ops Q i K a w := by
  unfold Go.wpOpIn
  simp only [hi]
  have hab : ∀ f, o.about P w a.eval = some f → F.fn f := fun f hf => by rw [hy.2] at hf; cases hf
  rcases hy.1 with ⟨hw, hv⟩ | ⟨hw, rfl⟩
  · simp only [hw, if_true, Oper.wpIn, hro, Oper.semAt_none, hv, Oper.uponIn]; exact ⟨hab, h⟩
  · simp only [hw, Bool.false_eq_true, if_false]; exact ⟨hab, h⟩

/-- Another operation behind one that is put ahead of it. -/
theorem wpOpIn_behind {j : Nat} {oi oj : Oper} {v : Value} (hro : F.round = none) (hj : ops[j]? = some oj) (hap : oi.apart ops oj = true)
    (hsj : ∀ cs b, oj.op ≠ .select cs b) (hQ : ∀ c a w, Q (.panic c) (a.put oi.dst v) w → Q (.panic c) a w) {K : Act → World → Prop} {a : Act} {w : World}
    (h : wpOpIn F n P ops Q j K (a.put oi.dst v) w) : wpOpIn F n P ops Q j (fun a' w' => (∃ (u : Value) (ds : List Deferred), a' = ({ a with defers := ds } : Act).put oj.dst u) ∧ K (a'.put oi.dst v) w') a w := by
  obtain ⟨h1, h2, _⟩ := Oper.apart_spec hap
  unfold Go.wpOpIn at *
  simp only [hj] at *
  rw [wanted_put oj a oi.dst v h1, about_put oj w a oi.dst v h1] at h
  split
  · rename_i hw
    simp only [hw, if_true] at h
    unfold Oper.wpIn at *
    rw [about_put oj w a oi.dst v h1] at h
    refine ⟨h.1, ?_⟩
    have h := h.2
    rw [hro, Oper.semAt_none, execOp_put oj hsj a oi.dst v h1] at h
    rw [hro, Oper.semAt_none]
    generalize (execOp a.eval oj).run P w = r at *
    cases r with
    | ok x w' =>
      cases x <;> simp only [Oper.uponIn] at h ⊢
      case value u => exact ⟨⟨u, a.defers, rfl⟩, by rw [← Act.put_comm a v u h2]; exact h⟩
      case skip => exact ⟨⟨_, a.defers, rfl⟩, by rw [← Act.put_comm a v undef h2]; exact h⟩
      case defer d =>
        refine ⟨⟨_, d :: a.defers, rfl⟩, ?_⟩
        rw [← Act.put_comm _ v undef h2, ← Act.put_defers]
        exact h
      case enter f args =>
        refine ⟨h.1, CallsIn.mono h.2 fun e w'' he => ?_⟩
        cases e with
        | returned u => exact ⟨⟨u, a.defers, rfl⟩, by rw [← Act.put_comm a v u h2]; exact he⟩
        | panicked c => exact hQ _ _ _ he
        | outgrown => exact he
      case row row args => exact ⟨h.1, RowsIn.mono h.2 fun u w'' he => ⟨⟨u, a.defers, rfl⟩, by rw [← Act.put_comm a v u h2]; exact he⟩⟩
      case round l f tmps assign body =>
        refine ⟨h.1, RoundIn.mono h.2 fun e w'' he => ?_⟩
        cases e with
        | returned u => exact ⟨⟨u, a.defers, rfl⟩, by rw [← Act.put_comm a v u h2]; exact he⟩
        | panicked c => exact hQ _ _ _ he
        | outgrown => exact he
    | halt x w' =>
      cases x <;> simp only [Oper.uponIn] at h ⊢
      case panic u => exact hQ _ _ _ h
  · rename_i hw
    simp only [hw] at h
    exact ⟨h.1, ⟨⟨undef, a.defers, rfl⟩, by rw [← Act.put_comm a v undef h2]; exact h.2⟩⟩

/-- Whatever order the edges allow: 'hv' says which operations may turn the world; those that may not hand back their values in every world of C. -/
def anyP (F : Fence) (n : Nat) (P : Program) (md : Region.Mode) (ops : Array Oper) (hv cl : Nat → Bool) (C : World → Prop) (Q : Exit → Act → World → Prop) : Nat → Array Bool → Act → World → Prop
  | 0, listed, a, w => Region.ready md ops listed = [] ∧ Q .normal a w
  | fuel + 1, listed, a, w => (Region.ready md ops listed = [] → Q .normal a w) ∧
    ∀ i ∈ Region.ready md ops listed, wpOpIn F n P ops Q i (fun a' w' => (hv i = false → w' = w) ∧ (cl i = false → C w → C w') ∧ anyP F n P md ops hv cl C Q fuel (listed.setIfInBounds i true) a' w') a w

theorem wpAnyIn_of_anyP {hv cl : Nat → Bool} {C : World → Prop} : ∀ (fuel : Nat) (listed : Array Bool) (a : Act) (w : World), anyP F n P md ops hv cl C Q fuel listed a w → wpAnyIn F n P md ops Q fuel listed a w
  | 0, _, _, _, h => h
  | fuel + 1, _, _, _, h => ⟨h.1, fun i hi => wpOpIn_mono (fun a' w' h' => wpAnyIn_of_anyP fuel _ a' w' h'.2.2) (h.2 i hi)⟩

/-- A light operation may be taken first. D: the worlds in which it may come up. -/
theorem anyP_first {hv cl : Nat → Bool} {C D : World → Prop} {Inv : Array Bool → Prop} {k : Nat} {ok : Oper} {v : Value} (hro : F.round = none) (hk : ops[k]? = some ok) (hlk : hv k = false)
    (hsel : ∀ (j : Nat) (o : Oper) cs b, ops[j]? = some o → o.op ≠ .select cs b) (hQ : ∀ c a w, Q (.panic c) (a.put ok.dst v) w → Q (.panic c) a w)
    (hInv : ∀ L j, Inv L → j ∈ Region.ready md ops L → Inv (L.setIfInBounds j true))
    (hkeep : ∀ L j, Inv L → L.getD k true = false → j ∈ Region.ready md ops L → j ≠ k → ∀ w w' : World, (hv j = false → w' = w) → (cl j = false → C w → C w') → D w → D w') :
    ∀ (fuel : Nat) (L : Array Bool) (a : Act) (w : World), Inv L →
      (∀ j oj, ops[j]? = some oj → j ≠ k → L.getD j true = false → (∀ e ∈ oj.after, Region.binds md e = true → e.on ≠ k) → ok.apart ops oj = true) →
      k ∈ Region.ready md ops L → D w → (∀ W, D W → LiYields P ops ok v a W) →
      anyP F n P md ops hv cl C Q fuel (L.setIfInBounds k true) (a.put ok.dst v) w → anyP F n P md ops hv cl C Q (fuel + 1) L a w := by
  intro fuel
  induction fuel with
  | zero =>
    intro L a w _ _ hr hD hy H
    refine ⟨fun h => (by rw [h] at hr; cases hr), fun j hj => ?_⟩
    by_cases hjk : j = k
    · subst hjk; exact (hy w hD).wpOpIn hro hk ⟨fun _ => rfl, fun _ => id, H⟩
    · have := ready_mono hj hjk
      rw [H.1] at this
      cases this
  | succ fuel ih =>
    intro L a w hI hfree hr hD hy H
    refine ⟨fun h => (by rw [h] at hr; cases hr), fun j hj => ?_⟩
    by_cases hjk : j = k
    · subst hjk; exact (hy w hD).wpOpIn hro hk ⟨fun _ => rfl, fun _ => id, H⟩
    · have h1 := H.2 j (ready_mono hj hjk)
      obtain ⟨hjun, oj, hoj, hall⟩ := mem_ready.1 hj
      have hkun := (mem_ready.1 hr).1
      have hnot : ∀ e ∈ oj.after, Region.binds md e = true → e.on ≠ k := fun e he hb heq => by
        have h1 := hall e he hb
        rw [heq] at h1
        rcases Nat.lt_or_ge k L.size with h' | h'
        · simp [h'] at hkun h1; rw [hkun] at h1; cases h1
        · simp [Array.getElem?_eq_none h'] at h1
      have hap := hfree j oj hoj hjk hjun hnot
      obtain ⟨_, _, h3⟩ := Oper.apart_spec hap
      have h2 := wpOpIn_behind hro hoj hap (fun cs b => hsel j oj cs b hoj) hQ h1
      have hfree' : ∀ m om, ops[m]? = some om → m ≠ k → (L.setIfInBounds j true).getD m true = false →
          (∀ e ∈ om.after, Region.binds md e = true → e.on ≠ k) → ok.apart ops om = true := fun m om hm hmk hun hno => by
        refine hfree m om hm hmk ?_ hno
        by_cases hjm : j = m
        · subst hjm; exact hjun
        · rw [getD_set_ne true hjm] at hun; exact hun
      refine wpOpIn_mono (fun a' w' h4 => ?_) h2
      obtain ⟨⟨u, ds, rfl⟩, hs, hc, hA⟩ := h4
      refine ⟨hs, hc, ih (L.setIfInBounds j true) _ w' (hInv L j hI hj) hfree' (ready_mono hr (Ne.symm hjk)) (hkeep L j hI hkun hj hjk w w' hs hc hD) (fun W hW => ?_) ?_⟩
      · exact (hy W hW).of_same (execOp_put ok (fun cs b => hsel k ok cs b hk) { a with defers := ds } oj.dst u h3) (wanted_put ok { a with defers := ds } oj.dst u h3) (about_put ok W { a with defers := ds } oj.dst u h3)
      · rw [Array.setIfInBounds_comm _ _ hjk]
        exact hA

/-- The operations in a given order. -/
def ordP (F : Fence) (n : Nat) (P : Program) (ops : Array Oper) (hv held : Nat → Bool) (C : World → Prop) (Q : Exit → Act → World → Prop) : List Nat → Act → World → Prop
  | [], a, w => Q .normal a w
  | i :: rest, a, w =>
    if hv i then wpOpIn F n P ops Q i (fun a' w' => C w' ∧ ordP F n P ops hv held C Q rest a' w') a w
    else match ops[i]? with
      | none => False
      | some o => ∃ v, (∀ W, (if held i then C W else W = w) → LiYields P ops o v a W) ∧ ordP F n P ops hv held C Q rest (a.put o.dst v) w

/-- i is a forebear of j. -/
def ancB (md : Region.Mode) (ops : Array Oper) : Nat → Nat → Nat → Bool
  | 0, _, _ => false
  | f + 1, j, i => match ops[j]? with
    | some oj => oj.after.any fun e => Region.binds md e && (e.on == i || ancB md ops f e.on i)
    | none => false

def ClosedL (md : Region.Mode) (ops : Array Oper) (L : Array Bool) : Prop :=
  ∀ j oj, ops[j]? = some oj → L.getD j false = true → ∀ e ∈ oj.after, Region.binds md e = true → L.getD e.on false = true

theorem anc_listed {L : Array Bool} (hc : ClosedL md ops L) : ∀ (f j i : Nat), ancB md ops f j i = true → (L.getD j false = true ∨ j ∈ Region.ready md ops L) → L.getD i false = true
  | 0, _, _, h, _ => by cases h
  | f + 1, j, i, h, hj => by
    unfold ancB at h
    cases ho : ops[j]? with
    | none => rw [ho] at h; cases h
    | some oj =>
      rw [ho] at h
      obtain ⟨e, he, hb⟩ := Array.any_eq_true'.1 h
      simp only [Bool.and_eq_true, Bool.or_eq_true, beq_iff_eq] at hb
      have hl : L.getD e.on false = true := by
        rcases hj with hj | hj
        · exact hc j oj ho hj e he hb.1
        · obtain ⟨_, o', ho', hall⟩ := mem_ready.1 hj
          have : o' = oj := Option.some.inj (ho'.symm.trans ho)
          subst this
          exact hall e he hb.1
      rcases hb.2 with h1 | h1
      · rw [← h1]; exact hl
      · exact anc_listed hc f e.on i h1 (.inl hl)

theorem closed_set {L : Array Bool} {j : Nat} (hc : ClosedL md ops L) (hj : j ∈ Region.ready md ops L) : ClosedL md ops (L.setIfInBounds j true) := by
  intro k ok hk hl e he hb
  by_cases hjk : j = k
  · subst hjk
    obtain ⟨_, o', ho', hall⟩ := mem_ready.1 hj
    have : o' = ok := Option.some.inj (ho'.symm.trans hk)
    subst this
    exact getD_set_true (hall e he hb)
  · rw [getD_set_ne false hjk] at hl
    exact getD_set_true (hc k ok hk hl e he hb)

/-- The look at the order: each operation may come up at its place; one that may turn the world comes up alone; one that may not is free, and it is held or a forebear of each later one that may turn the world. -/
def chkP (md : Region.Mode) (ops : Array Oper) (hv held : Nat → Bool) : List Nat → List Nat → Array Bool → Bool
  | _, [], L => (Region.ready md ops L).isEmpty
  | pre, i :: rest, L => (Region.ready md ops L).contains i &&
      (if hv i then decide (Region.ready md ops L = [i]) else Region.free md ops L i && (held i || (List.range ops.size).all fun h => !hv h || pre.contains h || ancB md ops ops.size h i)) &&
      chkP md ops hv held (i :: pre) rest (L.setIfInBounds i true)

theorem anyP_of_ord {hv held : Nat → Bool} {C : World → Prop} (hro : F.round = none) (hns : Region.noSelect ops = true) (hQ : ∀ c (d : Option Tmp) (v : Value) a w, Q (.panic c) (a.put d v) w → Q (.panic c) a w) :
    ∀ (ord pre : List Nat) (L : Array Bool) (a : Act) (w : World), ClosedL md ops L → (∀ i ∈ pre, L.getD i false = true) → chkP md ops hv held pre ord L = true → C w →
      ordP F n P ops hv held C Q ord a w → anyP F n P md ops hv (fun _ => false) C Q ord.length L a w
  | [], _, L, a, w, _, _, hB, _, h => ⟨by simpa [chkP] using hB, h⟩
  | i :: rest, pre, L, a, w, hc, hp, hB, hC, h => by
    have hsel := Region.noSelect_spec hns
    simp only [chkP, Bool.and_eq_true] at hB
    obtain ⟨⟨hr, hi⟩, hB'⟩ := hB
    have hr' : i ∈ Region.ready md ops L := by simpa using hr
    have hlen : i < L.size ∨ ¬ i < L.size := by omega
    have hset : ∀ k ∈ i :: pre, (L.setIfInBounds i true).getD k false = true := by
      intro k hk
      rcases List.mem_cons.1 hk with rfl | hk
      · have := (mem_ready.1 hr').1
        rcases hlen with hl | hl
        · simp [hl]
        · simp [Array.getElem?_eq_none (Nat.le_of_not_lt hl)] at this
      · exact getD_set_true (hp k hk)
    unfold ordP at h
    cases hv' : hv i with
    | true =>
      rw [hv'] at h hi
      simp only [if_true, decide_eq_true_eq] at h hi
      refine ⟨fun h0 => (by rw [h0] at hr'; cases hr'), fun j hj => ?_⟩
      rw [hi] at hj
      obtain rfl : j = i := by simpa using hj
      refine wpOpIn_mono (fun a' w' h' => ⟨fun h0 => (by rw [hv'] at h0; cases h0), fun _ _ => h'.1, ?_⟩) h
      exact anyP_of_ord hro hns hQ rest (j :: pre) _ a' w' (closed_set hc hr') hset hB' h'.1 h'.2
    | false =>
      rw [hv'] at h hi
      simp only [Bool.false_eq_true, if_false, Bool.and_eq_true, Bool.or_eq_true] at h hi
      cases ho : ops[i]? with
      | none => rw [ho] at h; exact h.elim
      | some o =>
        rw [ho] at h
        obtain ⟨v, hy, hrest⟩ := h
        refine anyP_first (C := C) (D := fun W => if held i then C W else W = w) (Inv := fun L' => ClosedL md ops L' ∧ ∀ k ∈ pre, L'.getD k false = true) hro ho hv' hsel (fun c a w => hQ c o.dst v a w)
          (fun L' j hI hj => ⟨closed_set hI.1 hj, fun k hk => getD_set_true (hI.2 k hk)⟩) ?_ rest.length L a w ⟨hc, hp⟩ (Region.free_spec ho hi.1) hr' ?_ hy ?_
        · intro L' j hI hun hj hne w1 w2 hs hcc hD
          cases hh : held i with
          | true => rw [hh] at hD; simp only [if_true] at hD ⊢; exact hcc rfl hD
          | false =>
            rw [hh] at hD; simp only [Bool.false_eq_true, if_false] at hD ⊢
            have hall := hi.2.resolve_left (by rw [hh]; simp)
            have hlight : hv j = false := by
              cases hvj : hv j with
              | false => rfl
              | true =>
                obtain ⟨hjun, oj, hoj, _⟩ := mem_ready.1 hj
                have hjlt : j < ops.size := (Array.getElem?_eq_some_iff.1 hoj).1
                have h1 := List.all_eq_true.1 hall j (List.mem_range.2 hjlt)
                simp only [Bool.or_eq_true, Bool.not_eq_true', hvj] at h1
                rcases h1 with (h1 | h1) | h1
                · cases h1
                · have := hI.2 j (by simpa using h1)
                  rcases Nat.lt_or_ge j L'.size with h' | h'
                  · simp [h'] at hjun this; rw [hjun] at this; cases this
                  · simp [Array.getElem?_eq_none h'] at this
                · have := anc_listed hI.1 _ j i h1 (.inr hj)
                  rcases Nat.lt_or_ge i L'.size with h' | h'
                  · simp [h'] at hun this; rw [hun] at this; cases this
                  · simp [Array.getElem?_eq_none h'] at this
            rw [hs hlight, hD]
        · cases hh : held i with
          | true => simpa using hC
          | false => simp
        · exact anyP_of_ord hro hns hQ rest (i :: pre) _ _ w (closed_set hc hr') hset hB' hC hrest

/-- **A region that draws its order, in one order.** -/
theorem wpIn_region_ord {id : Nat} {a : Act} {w : World} (ord : List Nat) (hv held : Nat → Bool) (C : World → Prop) (hro : F.round = none) (hm : P.follows .mixedOrders = true)
    (hB : (Region.noSelect ops && decide (ord.length = ops.size) && chkP .any ops hv held [] ord (Array.replicate ops.size false)) = true)
    (hQ : ∀ c (d : Option Tmp) (v : Value) a w, Q (.panic c) (a.put d v) w → Q (.panic c) a w) (hC : C w.drew)
    (h : ordP F n P ops hv held C Q ord a w.drew) : (Code.region id ops true).wpIn F n P Q a w := by
  simp only [Bool.and_eq_true, decide_eq_true_eq] at hB
  refine wpIn_region_any hm ?_
  have H := wpAnyIn_of_anyP (hv := hv) (cl := fun _ => false) (C := C) _ _ _ _ (anyP_of_ord hro hB.1.1 hQ ord [] (Array.replicate ops.size false) a _ (fun j oj _ hl => by
    rcases Nat.lt_or_ge j ops.size with h' | h'
    · simp [h'] at hl
    · simp [h'] at hl) (fun _ h => by cases h) hB.2 hC h)
  rw [hB.1.2] at H
  exact H

/-- Which operations may turn the world. -/
def heavyOp : Op → Bool
  | .move _ | .assign _ | .pick .. | .build .. | .load .. | .nilCheck _ | .binOp .. | .unOp .. | .convert .. | .makeInterface .. | .makeFunc .. | .slice .. | .fieldAddr .. | .field .. | .indexAddr .. | .index .. | .lookup .. | .typeAssert .. | .extract .. => false
  | .call { callee := .builtin b, .. } => match b with | .len | .cap | .max | .min => false | _ => true
  | _ => true
def heavyAt (ops : Array Oper) (i : Nat) : Bool := match ops[i]? with | some o => heavyOp o.op | none => true

/-- The operations in a given order; the light ones where they stand. -/
def ordT (F : Fence) (n : Nat) (P : Program) (ops : Array Oper) (Q : Exit → Act → World → Prop) (ord : List Nat) (a : Act) (w : World) : Prop :=
  ordP F n P ops (heavyAt ops) (fun _ => false) (fun _ => True) Q ord a w

def chkT (ops : Array Oper) (ord : List Nat) : Bool :=
  Region.noSelect ops && decide (ord.length = ops.size) && chkP .any ops (heavyAt ops) (fun _ => false) [] ord (Array.replicate ops.size false)

theorem wpIn_region_text {id : Nat} {a : Act} {w : World} (ord : List Nat) (hro : F.round = none) (hm : P.follows .mixedOrders = true) (hB : chkT ops ord = true)
    (hQ : ∀ c (d : Option Tmp) (v : Value) a w, Q (.panic c) (a.put d v) w → Q (.panic c) a w)
    (h : ordT F n P ops Q ord a w.drew) : (Code.region id ops true).wpIn F n P Q a w :=
  wpIn_region_ord ord _ _ _ hro hm hB hQ trivial h

def liUpon (w : World) (C : Value → Prop) : Result Next → Prop
  | .ok (.value v) w' => w' = w ∧ C v
  | _ => False
theorem liUpon_value (w w' : World) (C : Value → Prop) (v : Value) : liUpon w C (.ok (.value v) w') = (w' = w ∧ C v) := rfl
attribute [go_sem] liUpon_value

theorem ordT_nil {a : Act} {w : World} (h : Q .normal a w) : ordT F n P ops Q [] a w := h
theorem ordT_li {i : Nat} {rest : List Nat} {a : Act} {w : World} {o : Oper} (ho : ops[i]? = some o) (hh : heavyOp o.op = false)
    (h : ∀ K : Act → Prop, (∀ a', ordT F n P ops Q rest a' w → K a') → if Region.wanted o (yielded ops a.tmps) = true then o.about P w a.eval = none ∧ liUpon w (fun v => K (a.put o.dst v)) ((execOp a.eval o).run P w) else o.about P w a.eval = none ∧ K (a.put o.dst undef)) :
    ordT F n P ops Q (i :: rest) a w := by
  have h := h (fun a' => ordT F n P ops Q rest a' w) (fun _ h => h)
  unfold ordT ordP
  have hv : heavyAt ops i = false := by unfold heavyAt; rw [ho]; exact hh
  simp only [hv, Bool.false_eq_true, if_false, ho]
  split at h
  · rename_i hw
    obtain ⟨hab, h⟩ := h
    generalize hr : (execOp a.eval o).run P w = r at h
    unfold liUpon at h
    split at h
    · obtain ⟨rfl, h⟩ := h
      exact ⟨_, fun W hW => by subst hW; exact ⟨.inl ⟨hw, hr⟩, hab⟩, h⟩
    · exact h.elim
  · rename_i hw
    exact ⟨undef, fun W hW => by subst hW; exact ⟨.inr ⟨by simpa using hw, rfl⟩, h.1⟩, h.2⟩
theorem ordT_hv {i : Nat} {rest : List Nat} {a : Act} {w : World} {o : Oper} (ho : ops[i]? = some o) (hh : heavyOp o.op = true) (hg : o.guard = none)
    (h : ∀ K : Act → World → Prop, (∀ a' w', ordT F n P ops Q rest a' w' → K a' w') → o.wpIn F n P a w K Q) : ordT F n P ops Q (i :: rest) a w := by
  have h := h (fun a' w' => True ∧ ordT F n P ops Q rest a' w') (fun _ _ h => ⟨trivial, h⟩)
  unfold ordT ordP
  have hv : heavyAt ops i = true := by unfold heavyAt; rw [ho]; exact hh
  simp only [hv, if_true]
  unfold wpOpIn
  simp only [ho, Region.wanted, hg, if_true]
  exact h
end
end Go.Proofs.Ytilmlgngnbokfaa
