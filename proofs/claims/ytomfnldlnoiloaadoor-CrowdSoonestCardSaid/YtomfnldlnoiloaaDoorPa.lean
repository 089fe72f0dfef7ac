/- A region that draws its order, read in the order of the text: inside a fence. -/
import Derived.OrdersIn
import Derived.RegionIn
import Derived.WalkKit
namespace Go.Proofs.YtomfnldlnoiloaaDoor
set_option linter.unusedVariables false
set_option linter.unusedSimpArgs false
open Go

section
variable {F : Fence} {n : Nat} {P : Program} {ops : Array Oper} {Q : Exit → Act → World → Prop} {md : Region.Mode}

/-- An operation that leaves the world alone hands back v. -/
def LiYields (P : Program) (ops : Array Oper) (o : Oper) (v : Value) (a : Act) (w : World) : Prop :=
  ((Region.wanted o (yielded ops a.tmps) = true ∧ (execOp a.eval o).run P w = .ok (.value v) w) ∨ (Region.wanted o (yielded ops a.tmps) = false ∧ v = undef)) ∧ o.about P w a.eval = none

theorem LiYields.of_same {o : Oper} {v : Value} {a a' : Act} {w : World} (hy : LiYields P ops o v a w) (he : execOp a'.eval o = execOp a.eval o)
    (hw : Region.wanted o (yielded ops a'.tmps) = Region.wanted o (yielded ops a.tmps)) (hb : o.about P w a'.eval = o.about P w a.eval) : LiYields P ops o v a' w := by
  unfold LiYields at *
  rw [he, hw, hb]
  exact hy

theorem LiYields.wpOpIn {i : Nat} {o : Oper} {v : Value} {a : Act} {w : World} (hro : F.round = none) (hi : ops[i]? = some o) (hy : LiYields P ops o v a w)
    {K : Act → World → Prop} (h : K (a.put o.dst v) w) : wpOpIn F n P ops Q i K a w := by
  unfold Go.wpOpIn
  simp only [hi]
  have hab : ∀ f, o.about P w a.eval = some f → F.fn f := fun f hf => by rw [hy.2] at hf; cases hf
  rcases hy.1 with ⟨hw, hv⟩ | ⟨hw, rfl⟩
  · simp only [hw, if_true, Oper.wpIn, hro, Oper.semAt_none, hv, Oper.uponIn]; exact ⟨hab, h⟩
  · simp only [hw, Bool.false_eq_true, if_false]; exact ⟨hab, h⟩

/-- Another operation behind one that is put ahead of it. -/
theorem wpOpIn_behind {j : Nat} {oi oj : Oper} {v : Value} (hro : F.round = none) (hj : ops[j]? = some oj) (hap : oi.apart ops oj = true)
    (hsj : ∀ cs b, oj.op ≠ .select cs b) (hQ : ∀ c a w, Q (.panic c) (a.put oi.dst v) w → Q (.panic c) a w) {K : Act → World → Prop} {a : Act} {w : World}
    (h : wpOpIn F n P ops Q j K (a.put oi.dst v) w) : wpOpIn F n P ops Q j (fun a' w' => (∃ (u : Value) (ds : List Deferred), a' = ({ a with defers := ds } : Act).put oj.dst u) ∧ K (a'.put oi.dst v) w') a w := by
  obtain ⟨h1, h2, _⟩ := Oper.apart_spec hap
  unfold Go.wpOpIn at *
  simp only [hj] at *
  rw [wanted_put oj a oi.dst v h1, about_put oj w a oi.dst v h1] at h
  split
  · rename_i hw
    simp only [hw, if_true] at h
    unfold Oper.wpIn at *
    rw [about_put oj w a oi.dst v h1] at h
    refine ⟨h.1, ?_⟩
    have h := h.2
    rw [hro, Oper.semAt_none, execOp_put oj hsj a oi.dst v h1] at h
    rw [hro, Oper.semAt_none]
    generalize (execOp a.eval oj).run P w = r at *
    cases r with
    | ok x w' =>
      cases x <;> simp only [Oper.uponIn] at h ⊢
      case value u => exact ⟨⟨u, a.defers, rfl⟩, by rw [← Act.put_comm a v u h2]; exact h⟩
      case skip => exact ⟨⟨_, a.defers, rfl⟩, by rw [← Act.put_comm a v undef h2]; exact h⟩
      case defer d =>
        refine ⟨⟨_, d :: a.defers, rfl⟩, ?_⟩
        rw [← Act.put_comm _ v undef h2, ← Act.put_defers]
        exact h
      case enter f args =>
        refine ⟨h.1, CallsIn.mono h.2 fun e w'' he => ?_⟩
        cases e with
        | returned u => exact ⟨⟨u, a.defers, rfl⟩, by rw [← Act.put_comm a v u h2]; exact he⟩
        | panicked c => exact hQ _ _ _ he
        | outgrown => exact he
      case row row args => exact ⟨h.1, RowsIn.mono h.2 fun u w'' he => ⟨⟨u, a.defers, rfl⟩, by rw [← Act.put_comm a v u h2]; exact he⟩⟩
      case round l f tmps assign body =>
        refine ⟨h.1, RoundIn.mono h.2 fun e w'' he => ?_⟩
        cases e with
        | returned u => exact ⟨⟨u, a.defers, rfl⟩, by rw [← Act.put_comm a v u h2]; exact he⟩
        | panicked c => exact hQ _ _ _ he
        | outgrown => exact he
    | halt x w' =>
      cases x <;> simp only [Oper.uponIn] at h ⊢
      case panic u => exact hQ _ _ _ h
  · rename_i hw
    simp only [hw] at h
    exact ⟨h.1, ⟨⟨undef, a.defers, rfl⟩, by rw [← Act.put_comm a v undef h2]; exact h.2⟩⟩

/-- Whatever order the edges allow: 'hv' says which operations may turn the world; those that may not hand back their values in every world of C. -/
def anyP (F : Fence) (n : Nat) (P : Program) (md : Region.Mode) (ops : Array Oper) (hv cl : Nat → Bool) (C : World → Prop) (Q : Exit → Act → World → Prop) : Nat → Array Bool → Act → World → Prop
  | 0, listed, a, w => Region.ready md ops listed = [] ∧ Q .normal a w
  | fuel + 1, listed, a, w => (Region.ready md ops listed = [] → Q .normal a w) ∧
    ∀ i ∈ Region.ready md ops listed, wpOpIn F n P ops Q i (fun a' w' => (hv i = false → w' = w) ∧ (cl i = false → C w → C w') ∧ anyP F n P md ops hv cl C Q fuel (listed.setIfInBounds i true) a' w') a w

theorem wpAnyIn_of_anyP {hv cl : Nat → Bool} {C : World → Prop} : ∀ (fuel : Nat) (listed : Array Bool) (a : Act) (w : World), anyP F n P md ops hv cl C Q fuel listed a w → wpAnyIn F n P md ops Q fuel listed a w
  | 0, _, _, _, h => h
  | fuel + 1, _, _, _, h => ⟨h.1, fun i hi => wpOpIn_mono (fun a' w' h' => wpAnyIn_of_anyP fuel _ a' w' h'.2.2) (h.2 i hi)⟩

/-- A light operation may be taken first. D: the worlds in which it may come up. -/
theorem anyP_first {hv cl : Nat → Bool} {C D : World → Prop} {Inv : Array Bool → Prop} {k : Nat} {ok : Oper} {v : Value} (hro : F.round = none) (hk : ops[k]? = some ok) (hlk : hv k = false)
    (hsel : ∀ (j : Nat) (o : Oper) cs b, ops[j]? = some o → o.op ≠ .select cs b) (hQ : ∀ c a w, Q (.panic c) (a.put ok.dst v) w → Q (.panic c) a w)
    (hInv : ∀ L j, Inv L → j ∈ Region.ready md ops L → Inv (L.setIfInBounds j true))
    (hkeep : ∀ L j, Inv L → L.getD k true = false → j ∈ Region.ready md ops L → j ≠ k → ∀ w w' : World, (hv j = false → w' = w) → (cl j = false → C w → C w') → D w → D w') :
    ∀ (fuel : Nat) (L : Array Bool) (a : Act) (w : World), Inv L →
      (∀ j oj, ops[j]? = some oj → j ≠ k → L.getD j true = false → (∀ e ∈ oj.after, Region.binds md e = true → e.on ≠ k) → ok.apart ops oj = true) →
      k ∈ Region.ready md ops L → D w → (∀ W, D W → LiYields P ops ok v a W) →
      anyP F n P md ops hv cl C Q fuel (L.setIfInBounds k true) (a.put ok.dst v) w → anyP F n P md ops hv cl C Q (fuel + 1) L a w := by
  intro fuel
  induction fuel with
  | zero =>
    intro L a w _ _ hr hD hy H
    refine ⟨fun h => (by rw [h] at hr; cases hr), fun j hj => ?_⟩
    by_cases hjk : j = k
    · subst hjk; exact (hy w hD).wpOpIn hro hk ⟨fun _ => rfl, fun _ => id, H⟩
    · have := ready_mono hj hjk
      rw [H.1] at this
      cases this
  | succ fuel ih =>
    intro L a w hI hfree hr hD hy H
    refine ⟨fun h => (by rw [h] at hr; cases hr), fun j hj => ?_⟩
    by_cases hjk : j = k
    · subst hjk; exact (hy w hD).wpOpIn hro hk ⟨fun _ => rfl, fun _ => id, H⟩
    · have h1 := H.2 j (ready_mono hj hjk)
      obtain ⟨hjun, oj, hoj, hall⟩ := mem_ready.1 hj
      have hkun := (mem_ready.1 hr).1
      have hnot : ∀ e ∈ oj.after, Region.binds md e = true → e.on ≠ k := fun e he hb heq => by
        have h1 := hall e he hb
        rw [heq] at h1
        rcases Nat.lt_or_ge k L.size with h' | h'
        · simp [h'] at hkun h1; rw [hkun] at h1; cases h1
        · simp [Array.getElem?_eq_none h'] at h1
      have hap := hfree j oj hoj hjk hjun hnot
      obtain ⟨_, _, h3⟩ := Oper.apart_spec hap
      have h2 := wpOpIn_behind hro hoj hap (fun cs b => hsel j oj cs b hoj) hQ h1
      have hfree' : ∀ m om, ops[m]? = some om → m ≠ k → (L.setIfInBounds j true).getD m true = false →
          (∀ e ∈ om.after, Region.binds md e = true → e.on ≠ k) → ok.apart ops om = true := fun m om hm hmk hun hno => by
        refine hfree m om hm hmk ?_ hno
        by_cases hjm : j = m
        · subst hjm; exact hjun
        · rw [getD_set_ne true hjm] at hun; exact hun
      refine wpOpIn_mono (fun a' w' h4 => ?_) h2
      obtain ⟨⟨u, ds, rfl⟩, hs, hc, hA⟩ := h4
      refine ⟨hs, hc, ih (L.setIfInBounds j true) _ w' (hInv L j hI hj) hfree' (ready_mono hr (Ne.symm hjk)) (hkeep L j hI hkun hj hjk w w' hs hc hD) (fun W hW => ?_) ?_⟩
      · exact (hy W hW).of_same (execOp_put ok (fun cs b => hsel k ok cs b hk) { a with defers := ds } oj.dst u h3) (wanted_put ok { a with defers := ds } oj.dst u h3) (about_put ok W { a with defers := ds } oj.dst u h3)
      · rw [Array.setIfInBounds_comm _ _ hjk]
        exact hA

/-- The operations in a given order. -/
def ordP (F : Fence) (n : Nat) (P : Program) (ops : Array Oper) (hv held : Nat → Bool) (C : World → Prop) (Q : Exit → Act → World → Prop) : List Nat → Act → World → Prop
  | [], a, w => Q .normal a w
  | i :: rest, a, w =>
    if hv i then wpOpIn F n P ops Q i (fun a' w' => C w' ∧ ordP F n P ops hv held C Q rest a' w') a w
    else match ops[i]? with
      | none => False
      | some o => ∃ v, (∀ W, (if held i then C W else W = w) → LiYields P ops o v a W) ∧ ordP F n P ops hv held C Q rest (a.put o.dst v) w

/-- i is a forebear of j. -/
def ancB (md : Region.Mode) (ops : Array Oper) : Nat → Nat → Nat → Bool
  | 0, _, _ => false
  | f + 1, j, i => match ops[j]? with
    | some oj => oj.after.any fun e => Region.binds md e && (e.on == i || ancB md ops f e.on i)
    | none => false

def ClosedL (md : Region.Mode) (ops : Array Oper) (L : Array Bool) : Prop :=
  ∀ j oj, ops[j]? = some oj → L.getD j false = true → ∀ e ∈ oj.after, Region.binds md e = true → L.getD e.on false = true

theorem anc_listed {L : Array Bool} (hc : ClosedL md ops L) : ∀ (f j i : Nat), ancB md ops f j i = true → (L.getD j false = true ∨ j ∈ Region.ready md ops L) → L.getD i false = true
  | 0, _, _, h, _ => by cases h
  | f + 1, j, i, h, hj => by
    unfold ancB at h
    cases ho : ops[j]? with
    | none => rw [ho] at h; cases h
    | some oj =>
      rw [ho] at h
      obtain ⟨e, he, hb⟩ := Array.any_eq_true'.1 h
      simp only [Bool.and_eq_true, Bool.or_eq_true, beq_iff_eq] at hb
      have hl : L.getD e.on false = true := by
        rcases hj with hj | hj
        · exact hc j oj ho hj e he hb.1
        · obtain ⟨_, o', ho', hall⟩ := mem_ready.1 hj
          have : o' = oj := Option.some.inj (ho'.symm.trans ho)
          subst this
          exact hall e he hb.1
      rcases hb.2 with h1 | h1
      · rw [← h1]; exact hl
      · exact anc_listed hc f e.on i h1 (.inl hl)

theorem closed_set {L : Array Bool} {j : Nat} (hc : ClosedL md ops L) (hj : j ∈ Region.ready md ops L) : ClosedL md ops (L.setIfInBounds j true) := by
  intro k ok hk hl e he hb
  by_cases hjk : j = k
  · subst hjk
    obtain ⟨_, o', ho', hall⟩ := mem_ready.1 hj
    have : o' = ok := Option.some.inj (ho'.symm.trans hk)
    subst this
    exact getD_set_true (hall e he hb)
  · rw [getD_set_ne false hjk] at hl
    exact getD_set_true (hc k ok hk hl e he hb)

/-- The look at the order: each operation may come up at its place; one that may turn the world comes up alone; one that may not is free, and it is held or a forebear of each later one that may turn the world. -/
def chkP (md : Region.Mode) (ops : Array Oper) (hv held : Nat → Bool) : List Nat → List Nat → Array Bool → Bool
  | _, [], L => (Region.ready md ops L).isEmpty
  | pre, i :: rest, L => (Region.ready md ops L).contains i &&
      (if hv i then decide (Region.ready md ops L = [i]) else Region.free md ops L i && (held i || (List.range ops.size).all fun h => !hv h || pre.contains h || ancB md ops ops.size h i)) &&
      chkP md ops hv held (i :: pre) rest (L.setIfInBounds i true)

theorem anyP_of_ord {hv held : Nat → Bool} {C : World → Prop} (hro : F.round = none) (hns : Region.noSelect ops = true) (hQ : ∀ c (d : Option Tmp) (v : Value) a w, Q (.panic c) (a.put d v) w → Q (.panic c) a w) :
    ∀ (ord pre : List Nat) (L : Array Bool) (a : Act) (w : World), ClosedL md ops L → (∀ i ∈ pre, L.getD i false = true) → chkP md ops hv held pre ord L = true → C w →
      ordP F n P ops hv held C Q ord a w → anyP F n P md ops hv (fun _ => false) C Q ord.length L a w
  | [], _, L, a, w, _, _, hB, _, h => ⟨by simpa [chkP] using hB, h⟩
  | i :: rest, pre, L, a, w, hc, hp, hB, hC, h => by
    have hsel := Region.noSelect_spec hns
    simp only [chkP, Bool.and_eq_true] at hB
    obtain ⟨⟨hr, hi⟩, hB'⟩ := hB
    have hr' : i ∈ Region.ready md ops L := by simpa using hr
    have hlen : i < L.size ∨ ¬ i < L.size := by omega
    have hset : ∀ k ∈ i :: pre, (L.setIfInBounds i true).getD k false = true := by
      intro k hk
      rcases List.mem_cons.1 hk with rfl | hk
      · have := (mem_ready.1 hr').1
        rcases hlen with hl | hl
        · simp [hl]
        · simp [Array.getElem?_eq_none (Nat.le_of_not_lt hl)] at this
      · exact getD_set_true (hp k hk)
    unfold ordP at h
    cases hv' : hv i with
    | true =>
      rw [hv'] at h hi
      simp only [if_true, decide_eq_true_eq] at h hi
      refine ⟨fun h0 => (by rw [h0] at hr'; cases hr'), fun j hj => ?_⟩
      rw [hi] at hj
      obtain rfl : j = i := by simpa using hj
      refine wpOpIn_mono (fun a' w' h' => ⟨fun h0 => (by rw [hv'] at h0; cases h0), fun _ _ => h'.1, ?_⟩) h
      exact anyP_of_ord hro hns hQ rest (j :: pre) _ a' w' (closed_set hc hr') hset hB' h'.1 h'.2
    | false =>
      rw [hv'] at h hi
      simp only [Bool.false_eq_true, if_false, Bool.and_eq_true, Bool.or_eq_true] at h hi
      cases ho : ops[i]? with
      | none => rw [ho] at h; exact h.elim
      | some o =>
        rw [ho] at h
        obtain ⟨v, hy, hrest⟩ := h
        refine anyP_first (C := C) (D := fun W => if held i then C W else W = w) (Inv := fun L' => ClosedL md ops L' ∧ ∀ k ∈ pre, L'.getD k false = true) hro ho hv' hsel (fun c a w => hQ c o.dst v a w)
          (fun L' j hI hj => ⟨closed_set hI.1 hj, fun k hk => getD_set_true (hI.2 k hk)⟩) ?_ rest.length L a w ⟨hc, hp⟩ (Region.free_spec ho hi.1) hr' ?_ hy ?_
        · intro L' j hI hun hj hne w1 w2 hs hcc hD
          cases hh : held i with
          | true => rw [hh] at hD; simp only [if_true] at hD ⊢; exact hcc rfl hD
          | false =>
            rw [hh] at hD; simp only [Bool.false_eq_true, if_false] at hD ⊢
            have hall := hi.2.resolve_left (by rw [hh]; simp)
            have hlight : hv j = false := by
              cases hvj : hv j with
              | false => rfl
              | true =>
                obtain ⟨hjun, oj, hoj, _⟩ := mem_ready.1 hj
                have hjlt : j < ops.size := (Array.getElem?_eq_some_iff.1 hoj).1
                have h1 := List.all_eq_true.1 hall j (List.mem_range.2 hjlt)
                simp only [Bool.or_eq_true, Bool.not_eq_true', hvj] at h1
                rcases h1 with (h1 | h1) | h1
                · cases h1
                · have := hI.2 j (by simpa using h1)
                  rcases Nat.lt_or_ge j L'.size with h' | h'
                  · simp [h'] at hjun this; rw [hjun] at this; cases this
                  · simp [Array.getElem?_eq_none h'] at this
                · have := anc_listed hI.1 _ j i h1 (.inr hj)
                  rcases Nat.lt_or_ge i L'.size with h' | h'
                  · simp [h'] at hun this; rw [hun] at this; cases this
                  · simp [Array.getElem?_eq_none h'] at this
            rw [hs hlight, hD]
        · cases hh : held i with
          | true => simpa using hC
          | false => simp
        · exact anyP_of_ord hro hns hQ rest (i :: pre) _ _ w (closed_set hc hr') hset hB' hC hrest

/-- **A region that draws its order, in one order.** -/
theorem wpIn_region_ord {id : Nat} {a : Act} {w : World} (ord : List Nat) (hv held : Nat → Bool) (C : World → Prop) (hro : F.round = none) (hm : P.follows .mixedOrders = true)
    (hB : (Region.noSelect ops && decide (ord.length = ops.size) && chkP .any ops hv held [] ord (Array.replicate ops.size false)) = true)
    (hQ : ∀ c (d : Option Tmp) (v : Value) a w, Q (.panic c) (a.put d v) w → Q (.panic c) a w) (hC : C w.drew)
    (h : ordP F n P ops hv held C Q ord a w.drew) : (Code.region id ops true).wpIn F n P Q a w := by
  simp only [Bool.and_eq_true, decide_eq_true_eq] at hB
  refine wpIn_region_any hm ?_
  have H := wpAnyIn_of_anyP (hv := hv) (cl := fun _ => false) (C := C) _ _ _ _ (anyP_of_ord hro hB.1.1 hQ ord [] (Array.replicate ops.size false) a _ (fun j oj _ hl => by
    rcases Nat.lt_or_ge j ops.size with h' | h'
    · simp [h'] at hl
    · simp [h'] at hl) (fun _ h => by cases h) hB.2 hC h)
  rw [hB.1.2] at H
  exact H

/-- Which operations may turn the world. -/
def heavyOp : Op → Bool
  | .move _ | .assign _ | .pick .. | .build .. | .load .. | .nilCheck _ | .binOp .. | .unOp .. | .convert .. | .makeInterface .. | .makeFunc .. | .slice .. | .fieldAddr .. | .field .. | .indexAddr .. | .index .. | .lookup .. | .typeAssert .. | .extract .. => false
  | .call { callee := .builtin b, .. } => match b with | .len | .cap | .max | .min => false | _ => true
  | _ => true
def heavyAt (ops : Array Oper) (i : Nat) : Bool := match ops[i]? with | some o => heavyOp o.op | none => true

/-- The operations in a given order; the light ones where they stand. -/
def ordT (F : Fence) (n : Nat) (P : Program) (ops : Array Oper) (Q : Exit → Act → World → Prop) (ord : List Nat) (a : Act) (w : World) : Prop :=
  ordP F n P ops (heavyAt ops) (fun _ => false) (fun _ => True) Q ord a w

def chkT (ops : Array Oper) (ord : List Nat) : Bool :=
  Region.noSelect ops && decide (ord.length = ops.size) && chkP .any ops (heavyAt ops) (fun _ => false) [] ord (Array.replicate ops.size false)

theorem wpIn_region_text {id : Nat} {a : Act} {w : World} (ord : List Nat) (hro : F.round = none) (hm : P.follows .mixedOrders = true) (hB : chkT ops ord = true)
    (hQ : ∀ c (d : Option Tmp) (v : Value) a w, Q (.panic c) (a.put d v) w → Q (.panic c) a w)
    (h : ordT F n P ops Q ord a w.drew) : (Code.region id ops true).wpIn F n P Q a w :=
  wpIn_region_ord ord _ _ _ hro hm hB hQ trivial h

def liUpon (w : World) (C : Value → Prop) : Result Next → Prop
  | .ok (.value v) w' => w' = w ∧ C v
  | _ => False
theorem liUpon_value (w w' : World) (C : Value → Prop) (v : Value) : liUpon w C (.ok (.value v) w') = (w' = w ∧ C v) := rfl
attribute [go_sem] liUpon_value

theorem ordT_nil {a : Act} {w : World} (h : Q .normal a w) : ordT F n P ops Q [] a w := h
theorem ordT_li {i : Nat} {rest : List Nat} {a : Act} {w : World} {o : Oper} (ho : ops[i]? = some o) (hh : heavyOp o.op = false)
    (h : ∀ K : Act → Prop, (∀ a', ordT F n P ops Q rest a' w → K a') → if Region.wanted o (yielded ops a.tmps) = true then o.about P w a.eval = none ∧ liUpon w (fun v => K (a.put o.dst v)) ((execOp a.eval o).run P w) else o.about P w a.eval = none ∧ K (a.put o.dst undef)) :
    ordT F n P ops Q (i :: rest) a w := by
  have h := h (fun a' => ordT F n P ops Q rest a' w) (fun _ h => h)
  unfold ordT ordP
  have hv : heavyAt ops i = false := by unfold heavyAt; rw [ho]; exact hh
  simp only [hv, Bool.false_eq_true, if_false, ho]
  split at h
  · rename_i hw
    obtain ⟨hab, h⟩ := h
    generalize hr : (execOp a.eval o).run P w = r at h
    unfold liUpon at h
    split at h
    · obtain ⟨rfl, h⟩ := h
      exact ⟨_, fun W hW => by subst hW; exact ⟨.inl ⟨hw, hr⟩, hab⟩, h⟩
    · exact h.elim
  · rename_i hw
    exact ⟨undef, fun W hW => by subst hW; exact ⟨.inr ⟨by simpa using hw, rfl⟩, h.1⟩, h.2⟩
theorem ordT_hv {i : Nat} {rest : List Nat} {a : Act} {w : World} {o : Oper} (ho : ops[i]? = some o) (hh : heavyOp o.op = true) (hg : o.guard = none)
    (h : ∀ K : Act → World → Prop, (∀ a' w', ordT F n P ops Q rest a' w' → K a' w') → o.wpIn F n P a w K Q) : ordT F n P ops Q (i :: rest) a w := by
  have h := h (fun a' w' => True ∧ ordT F n P ops Q rest a' w') (fun _ _ h => ⟨trivial, h⟩)
  unfold ordT ordP
  have hv : heavyAt ops i = true := by unfold heavyAt; rw [ho]; exact hh
  simp only [hv, if_true]
  unfold wpOpIn
  simp only [ho, Region.wanted, hg, if_true]
  exact h
end
end Go.Proofs.YtomfnldlnoiloaaDoor
/- A region that draws its order, by a plan: the light operations ahead where they may be, the heavy ones in each order that they may have. -/
namespace Go.Proofs.YtomfnldlnoiloaaDoor
set_option linter.unusedVariables false
set_option linter.unusedSimpArgs false
open Go

inductive Plan where
  | fin : Plan
  | one (i : Nat) (p : Plan) : Plan
  | two (i : Nat) (p : Plan) (j : Nat) (q : Plan) : Plan

namespace Plan
def len : Plan → Nat
  | .fin => 0
  | .one _ p => p.len + 1
  | .two _ p _ _ => p.len + 1
def ons : List Nat → Plan → Plan
  | [], p => p
  | i :: l, p => .one i (ons l p)
/-- No held operation in it. -/
def free (held : Nat → Bool) : Plan → Bool
  | .fin => true
  | .one i p => !held i && free held p
  | .two i p j q => !held i && !held j && (free held p && free held q)
end Plan

section
variable {F : Fence} {n : Nat} {P : Program} {ops : Array Oper} {Q : Exit → Act → World → Prop} {md : Region.Mode}

def ordQ (F : Fence) (n : Nat) (P : Program) (ops : Array Oper) (hv cl held : Nat → Bool) (C : World → Prop) (Q : Exit → Act → World → Prop) : Plan → Act → World → Prop
  | .fin, a, w => Q .normal a w
  | .one i p, a, w =>
    if hv i then wpOpIn F n P ops Q i (fun a' w' => (cl i = false → C w') ∧ ordQ F n P ops hv cl held C Q p a' w') a w
    else match ops[i]? with
      | none => False
      | some o => ∃ v, (∀ W, (if held i then C W else W = w) → LiYields P ops o v a W) ∧ ordQ F n P ops hv cl held C Q p (a.put o.dst v) w
  | .two i p j q, a, w => wpOpIn F n P ops Q i (fun a' w' => (cl i = false → C w') ∧ ordQ F n P ops hv cl held C Q p a' w') a w ∧ wpOpIn F n P ops Q j (fun a' w' => (cl j = false → C w') ∧ ordQ F n P ops hv cl held C Q q a' w') a w

def chkQ (md : Region.Mode) (ops : Array Oper) (hv cl held : Nat → Bool) : Plan → List Nat → Array Bool → Bool
  | .fin, _, L => (Region.ready md ops L).isEmpty
  | .one i p, pre, L => (Region.ready md ops L).contains i &&
      (if hv i then decide (Region.ready md ops L = [i]) && (!cl i || p.free held) else Region.free md ops L i && (if held i then (List.range ops.size).all fun h => !cl h || ancB md ops ops.size h i else (List.range ops.size).all fun h => !hv h || pre.contains h || ancB md ops ops.size h i)) &&
      chkQ md ops hv cl held p (i :: pre) (L.setIfInBounds i true)
  | .two i p j q, pre, L => hv i && hv j && ((!cl i || p.free held) && (!cl j || q.free held)) && (decide (Region.ready md ops L = [i, j]) && decide (p.len = q.len)) &&
      (chkQ md ops hv cl held p (i :: pre) (L.setIfInBounds i true) && chkQ md ops hv cl held q (j :: pre) (L.setIfInBounds j true))

theorem anyP_of_plan {hv cl held : Nat → Bool} {C : World → Prop} (hro : F.round = none) (hns : Region.noSelect ops = true) (hQ : ∀ c (d : Option Tmp) (v : Value) a w, Q (.panic c) (a.put d v) w → Q (.panic c) a w) :
    ∀ (pl : Plan) (pre : List Nat) (L : Array Bool) (a : Act) (w : World), ClosedL md ops L → (∀ i ∈ pre, L.getD i false = true) → chkQ md ops hv cl held pl pre L = true → (pl.free held = false → C w) →
      ordQ F n P ops hv cl held C Q pl a w → anyP F n P md ops hv cl C Q pl.len L a w
  | .fin, pre, L, a, w, _, _, hB, _, h => ⟨by simpa [chkQ] using hB, h⟩
  | .one i p, pre, L, a, w, hc, hp, hB, hC, h => by
    have hsel := Region.noSelect_spec hns
    simp only [chkQ, Bool.and_eq_true] at hB
    obtain ⟨⟨hr, hi⟩, hB'⟩ := hB
    have hr' : i ∈ Region.ready md ops L := by simpa using hr
    have hset : ∀ k ∈ i :: pre, (L.setIfInBounds i true).getD k false = true := by
      intro k hk
      rcases List.mem_cons.1 hk with rfl | hk
      · have := (mem_ready.1 hr').1
        rcases Nat.lt_or_ge k L.size with hl | hl
        · simp [hl]
        · simp [Array.getElem?_eq_none hl] at this
      · exact getD_set_true (hp k hk)
    unfold ordQ at h
    cases hv' : hv i with
    | true =>
      rw [hv'] at h hi
      simp only [if_true, Bool.and_eq_true, Bool.or_eq_true, decide_eq_true_eq] at h hi
      refine ⟨fun h0 => (by rw [h0] at hr'; cases hr'), fun j hj => ?_⟩
      rw [hi.1] at hj
      obtain rfl : j = i := by simpa using hj
      refine wpOpIn_mono (fun a' w' h' => ⟨fun h0 => (by rw [hv'] at h0; cases h0), fun h0 _ => h'.1 h0, ?_⟩) h
      refine anyP_of_plan hro hns hQ p (j :: pre) _ a' w' (closed_set hc hr') hset hB' (fun hf => h'.1 ?_) h'.2
      rcases hi.2 with h1 | h1
      · simpa using h1
      · rw [h1] at hf; cases hf
    | false =>
      rw [hv'] at h hi
      simp only [Bool.false_eq_true, if_false, Bool.and_eq_true] at h hi
      cases ho : ops[i]? with
      | none => rw [ho] at h; exact h.elim
      | some o =>
        rw [ho] at h
        obtain ⟨v, hy, hrest⟩ := h
        refine anyP_first (cl := cl) (C := C) (D := fun W => if held i then C W else W = w) (Inv := fun L' => ClosedL md ops L' ∧ ∀ k ∈ pre, L'.getD k false = true) hro ho hv' hsel (fun c a w => hQ c o.dst v a w)
          (fun L' j hI hj => ⟨closed_set hI.1 hj, fun k hk => getD_set_true (hI.2 k hk)⟩) ?_ p.len L a w ⟨hc, hp⟩ (Region.free_spec ho hi.1) hr' ?_ hy ?_
        · intro L' j hI hun hj hne w1 w2 hs hcc hD
          have hno : ∀ {b : Nat}, ancB md ops b j i = true → False := fun h1 => by
            have := anc_listed hI.1 _ j i h1 (.inr hj)
            rcases Nat.lt_or_ge i L'.size with h' | h'
            · simp [h'] at hun this; rw [hun] at this; cases this
            · simp [Array.getElem?_eq_none h'] at this
          obtain ⟨hjun, oj, hoj, _⟩ := mem_ready.1 hj
          have hjlt : j < ops.size := (Array.getElem?_eq_some_iff.1 hoj).1
          cases hh : held i with
          | true =>
            rw [hh] at hD hi
            simp only [if_true] at hD hi ⊢
            refine hcc ?_ hD
            cases hcl : cl j with
            | false => rfl
            | true =>
              have h1 := List.all_eq_true.1 hi.2 j (List.mem_range.2 hjlt)
              rw [hcl] at h1
              exact (hno (by simpa using h1)).elim
          | false =>
            rw [hh] at hD hi
            simp only [Bool.false_eq_true, if_false] at hD hi ⊢
            have hlight : hv j = false := by
              cases hvj : hv j with
              | false => rfl
              | true =>
                have h1 := List.all_eq_true.1 hi.2 j (List.mem_range.2 hjlt)
                simp only [Bool.or_eq_true, Bool.not_eq_true', hvj] at h1
                rcases h1 with (h1 | h1) | h1
                · cases h1
                · have := hI.2 j (by simpa using h1)
                  rcases Nat.lt_or_ge j L'.size with h' | h'
                  · simp [h'] at hjun this; rw [hjun] at this; cases this
                  · simp [Array.getElem?_eq_none h'] at this
                · exact (hno h1).elim
            rw [hs hlight, hD]
        · cases hh : held i with
          | true => simpa using hC (by simp [Plan.free, hh])
          | false => simp
        · exact anyP_of_plan hro hns hQ p (i :: pre) _ _ w (closed_set hc hr') hset hB' (fun hf => hC (by simp [Plan.free, hf])) hrest
  | .two i p j q, pre, L, a, w, hc, hp, hB, hC, h => by
    simp only [chkQ, Bool.and_eq_true, decide_eq_true_eq, Bool.or_eq_true] at hB
    obtain ⟨⟨⟨⟨hvi, hvj⟩, hfi, hfj⟩, hr, hpq⟩, hB1, hB2⟩ := hB
    have hri : i ∈ Region.ready md ops L := by rw [hr]; simp
    have hrj : j ∈ Region.ready md ops L := by rw [hr]; simp
    have hset : ∀ i, i ∈ Region.ready md ops L → ∀ k ∈ i :: pre, (L.setIfInBounds i true).getD k false = true := by
      intro i hri k hk
      rcases List.mem_cons.1 hk with rfl | hk
      · have := (mem_ready.1 hri).1
        rcases Nat.lt_or_ge k L.size with hl | hl
        · simp [hl]
        · simp [Array.getElem?_eq_none hl] at this
      · exact getD_set_true (hp k hk)
    unfold ordQ at h
    refine ⟨fun h0 => (by rw [h0] at hri; cases hri), fun m hm => ?_⟩
    rw [hr] at hm
    rcases List.mem_cons.1 hm with rfl | hm
    · refine wpOpIn_mono (fun a' w' h' => ⟨fun h0 => (by rw [hvi] at h0; cases h0), fun h0 _ => h'.1 h0, ?_⟩) h.1
      refine anyP_of_plan hro hns hQ p (m :: pre) _ a' w' (closed_set hc hri) (hset _ hri) hB1 (fun hf => h'.1 ?_) h'.2
      rcases hfi with h1 | h1
      · simpa using h1
      · rw [h1] at hf; cases hf
    · obtain rfl : m = j := by simpa using hm
      refine wpOpIn_mono (fun a' w' h' => ⟨fun h0 => (by rw [hvj] at h0; cases h0), fun h0 _ => h'.1 h0, ?_⟩) h.2
      have := anyP_of_plan hro hns hQ q (m :: pre) _ a' w' (closed_set hc hrj) (hset _ hrj) hB2 (fun hf => h'.1 (by
        rcases hfj with h1 | h1
        · simpa using h1
        · rw [h1] at hf; cases hf)) h'.2
      rw [← hpq] at this
      exact this

def chkF (ops : Array Oper) (cl held : Nat → Bool) (pl : Plan) : Bool :=
  Region.noSelect ops && decide (pl.len = ops.size) && chkQ .any ops (heavyAt ops) cl held pl [] (Array.replicate ops.size false)

/-- **A region that draws its order, by a plan.** -/
theorem wpIn_region_plan {id : Nat} {a : Act} {w : World} (pl : Plan) (held : List Nat) (C : World → Prop) (cl : List Nat) (hro : F.round = none) (hm : P.follows .mixedOrders = true)
    (hB : chkF ops (fun i => cl.contains i) (fun i => held.contains i) pl = true)
    (hQ : ∀ c (d : Option Tmp) (v : Value) a w, Q (.panic c) (a.put d v) w → Q (.panic c) a w) (hC : C w.drew)
    (h : ordQ F n P ops (heavyAt ops) (fun i => cl.contains i) (fun i => held.contains i) C Q pl a w.drew) : (Code.region id ops true).wpIn F n P Q a w := by
  unfold chkF at hB
  simp only [Bool.and_eq_true, decide_eq_true_eq] at hB
  refine wpIn_region_any hm ?_
  have H := wpAnyIn_of_anyP (hv := heavyAt ops) (cl := fun i => cl.contains i) (C := C) _ _ _ _ (anyP_of_plan hro hB.1.1 hQ pl [] (Array.replicate ops.size false) a _ (fun j oj _ hl => by
    rcases Nat.lt_or_ge j ops.size with h' | h'
    · simp [h'] at hl
    · simp [h'] at hl) (fun _ h => by cases h) hB.2 (fun _ => hC) h)
  rw [hB.1.2] at H
  exact H

theorem ordQ_fin {hv cl held : Nat → Bool} {C : World → Prop} {a : Act} {w : World} (h : Q .normal a w) : ordQ F n P ops hv cl held C Q .fin a w := h
/-- A light operation where it stands. -/
theorem ordQ_li {cl held : Nat → Bool} {C : World → Prop} {i : Nat} {p : Plan} {a : Act} {w : World} {o : Oper} (ho : ops[i]? = some o) (hh : heavyOp o.op = false) (hheld : held i = false)
    (h : ∀ K : Act → Prop, (∀ a', ordQ F n P ops (heavyAt ops) cl held C Q p a' w → K a') → if Region.wanted o (yielded ops a.tmps) = true then o.about P w a.eval = none ∧ liUpon w (fun v => K (a.put o.dst v)) ((execOp a.eval o).run P w) else o.about P w a.eval = none ∧ K (a.put o.dst undef)) :
    ordQ F n P ops (heavyAt ops) cl held C Q (.one i p) a w := by
  have h := h (fun a' => ordQ F n P ops (heavyAt ops) cl held C Q p a' w) (fun _ h => h)
  unfold ordQ
  have hv : heavyAt ops i = false := by unfold heavyAt; rw [ho]; exact hh
  simp only [hv, Bool.false_eq_true, if_false, ho, hheld]
  split at h
  · rename_i hw
    obtain ⟨hab, h⟩ := h
    generalize hr : (execOp a.eval o).run P w = r at h
    unfold liUpon at h
    split at h
    · obtain ⟨rfl, h⟩ := h
      exact ⟨_, fun W hW => by subst hW; exact ⟨.inl ⟨hw, hr⟩, hab⟩, h⟩
    · exact h.elim
  · rename_i hw
    exact ⟨undef, fun W hW => by subst hW; exact ⟨.inr ⟨by simpa using hw, rfl⟩, h.1⟩, h.2⟩
/-- A light operation that may come up later: in each world of C it hands back the same. -/
theorem ordQ_held {cl held : Nat → Bool} {C : World → Prop} {i : Nat} {p : Plan} {a : Act} {w : World} {o : Oper} (v : Value) (ho : ops[i]? = some o) (hh : heavyOp o.op = false) (hheld : held i = true) (hw : o.guard = none)
    (hy : ∀ W, C W → o.about P W a.eval = none ∧ liUpon W (fun u => u = v) ((execOp a.eval o).run P W))
    (h : ∀ K : Act → Prop, (∀ a', ordQ F n P ops (heavyAt ops) cl held C Q p a' w → K a') → K (a.put o.dst v)) :
    ordQ F n P ops (heavyAt ops) cl held C Q (.one i p) a w := by
  have h := h (fun a' => ordQ F n P ops (heavyAt ops) cl held C Q p a' w) (fun _ h => h)
  unfold ordQ
  have hv : heavyAt ops i = false := by unfold heavyAt; rw [ho]; exact hh
  simp only [hv, Bool.false_eq_true, if_false, ho, hheld, if_true]
  refine ⟨v, fun W hW => ?_, h⟩
  obtain ⟨hab, h1⟩ := hy W hW
  generalize hr : (execOp a.eval o).run P W = r at h1
  unfold liUpon at h1
  split at h1
  · obtain ⟨rfl, rfl⟩ := h1
    exact ⟨.inl ⟨by simp [Region.wanted, hw], hr⟩, hab⟩
  · exact h1.elim
theorem ordQ_hv {cl held : Nat → Bool} {C : World → Prop} {i : Nat} {p : Plan} {a : Act} {w : World} {o : Oper} (ho : ops[i]? = some o) (hh : heavyOp o.op = true) (hg : o.guard = none)
    (h : ∀ K : Act → World → Prop, (∀ a' w', (cl i = false → C w') → ordQ F n P ops (heavyAt ops) cl held C Q p a' w' → K a' w') → o.wpIn F n P a w K Q) : ordQ F n P ops (heavyAt ops) cl held C Q (.one i p) a w := by
  have h := h (fun a' w' => (cl i = false → C w') ∧ ordQ F n P ops (heavyAt ops) cl held C Q p a' w') (fun _ _ h1 h => ⟨h1, h⟩)
  unfold ordQ
  have hv : heavyAt ops i = true := by unfold heavyAt; rw [ho]; exact hh
  simp only [hv, if_true]
  unfold wpOpIn
  simp only [ho, Region.wanted, hg, if_true]
  exact h
theorem ordQ_two {cl held : Nat → Bool} {C : World → Prop} {i j : Nat} {p q : Plan} {a : Act} {w : World} {o o2 : Oper} (ho : ops[i]? = some o) (hg : o.guard = none) (ho2 : ops[j]? = some o2) (hg2 : o2.guard = none)
    (h : ∀ K : Act → World → Prop, (∀ a' w', (cl i = false → C w') → ordQ F n P ops (heavyAt ops) cl held C Q p a' w' → K a' w') → o.wpIn F n P a w K Q)
    (h2 : ∀ K : Act → World → Prop, (∀ a' w', (cl j = false → C w') → ordQ F n P ops (heavyAt ops) cl held C Q q a' w' → K a' w') → o2.wpIn F n P a w K Q) :
    ordQ F n P ops (heavyAt ops) cl held C Q (.two i p j q) a w := by
  have h := h (fun a' w' => (cl i = false → C w') ∧ ordQ F n P ops (heavyAt ops) cl held C Q p a' w') (fun _ _ h1 h => ⟨h1, h⟩)
  have h2 := h2 (fun a' w' => (cl j = false → C w') ∧ ordQ F n P ops (heavyAt ops) cl held C Q q a' w') (fun _ _ h1 h => ⟨h1, h⟩)
  unfold ordQ wpOpIn
  simp only [ho, ho2, Region.wanted, hg, hg2, if_true]
  exact ⟨h, h2⟩
end
end Go.Proofs.YtomfnldlnoiloaaDoor
/- A region that draws its order, by what holds at each set of operations that have been. -/
namespace Go.Proofs.YtomfnldlnoiloaaDoor
set_option linter.unusedVariables false
set_option linter.unusedSimpArgs false
open Go

section
variable {F : Fence} {n : Nat} {P : Program} {ops : Array Oper} {Q : Exit → Act → World → Prop}

def chkI (ops : Array Oper) : Bool := (List.range ops.size).all fun i => match ops[i]? with
  | some o => o.after.all fun e => !Region.binds .any e || decide (e.on < i)
  | none => true

theorem anyIn_of_inv (Inv : (Nat → Bool) → Act → World → Prop) (hchk : chkI ops = true)
    (hstep : ∀ (l : Nat → Bool) a w i o, ops[i]? = some o → l i = false → (∀ e ∈ o.after, Region.binds .any e = true → l e.on = true) → Inv l a w → wpOpIn F n P ops Q i (Inv (fun j => j == i || l j)) a w)
    (hfin : ∀ (l : Nat → Bool) a w, (∀ i, i < ops.size → l i = true) → Inv l a w → Q .normal a w) :
    ∀ (fuel : Nat) (L : Array Bool) (l : Nat → Bool) (a : Act) (w : World), L.size = ops.size → (∀ j, j < ops.size → L.getD j false = l j) → ((List.range ops.size).countP fun i => !l i) ≤ fuel → Inv l a w → wpAnyIn F n P .any ops Q fuel L a w := by
  have hres : ∀ (L : Array Bool) (l : Nat → Bool), L.size = ops.size → (∀ j, j < ops.size → L.getD j false = l j) → Region.ready .any ops L = [] → ∀ i, i < ops.size → l i = true := by
    intro L l hs hl hr i
    induction i using Nat.strongRecOn with
    | _ i ih =>
      intro hi
      cases hli : l i with
      | true => rfl
      | false =>
        exfalso
        have hmem : i ∈ Region.ready .any ops L := by
          refine mem_ready.2 ⟨?_, ops[i], Array.getElem?_eq_getElem hi, fun e he hb => ?_⟩
          · have := hl i hi
            rw [hli] at this
            have hlt : i < L.size := by omega
            simp only [Array.getD, hlt, dite_true] at this ⊢
            exact this
          · have h1 := List.all_eq_true.1 hchk i (List.mem_range.2 hi)
            simp only [Array.getElem?_eq_getElem hi] at h1
            have h2 := Array.all_eq_true'.1 h1 e he
            rw [hb] at h2
            have h3 : e.on < i := by simpa using h2
            rw [hl _ (by omega)]
            exact ih _ h3 (by omega)
        rw [hr] at hmem
        cases hmem
  intro fuel
  induction fuel with
  | zero =>
    intro L l a w hs hl hc hI
    have hall : ∀ i, i < ops.size → l i = true := fun i hi => by
      have h0 : (List.range ops.size).countP (fun i => !l i) = 0 := by omega
      have := List.countP_eq_zero.1 h0 i (List.mem_range.2 hi)
      simpa using this
    refine ⟨?_, hfin l a w hall hI⟩
    refine List.eq_nil_iff_forall_not_mem.2 fun i hi => ?_
    obtain ⟨h1, o, ho, _⟩ := mem_ready.1 hi
    have hlt : i < ops.size := (Array.getElem?_eq_some_iff.1 ho).1
    have h2 := hl i hlt
    rw [hall i hlt] at h2
    have hlt' : i < L.size := by omega
    simp only [Array.getD, hlt', dite_true] at h1 h2
    rw [h1] at h2
    cases h2
  | succ fuel ih =>
    intro L l a w hs hl hc hI
    refine ⟨fun hr => hfin l a w (hres L l hs hl hr) hI, fun i hi => ?_⟩
    obtain ⟨h1, o, ho, hd⟩ := mem_ready.1 hi
    have hlt : i < ops.size := (Array.getElem?_eq_some_iff.1 ho).1
    have hli : l i = false := by
      have h2 := hl i hlt
      have hlt' : i < L.size := by omega
      simp only [Array.getD, hlt', dite_true] at h1 h2
      rw [← h2]; exact h1
    have hdep : ∀ e ∈ o.after, Region.binds .any e = true → l e.on = true := fun e he hb => by
      have h2 := hd e he hb
      have h3 : e.on < L.size := by
        rcases Nat.lt_or_ge e.on L.size with h | h
        · exact h
        · simp [Array.getElem?_eq_none h] at h2
      rw [← hl _ (by omega)]
      exact h2
    refine wpOpIn_mono (fun a' w' h => ih (L.setIfInBounds i true) (fun j => j == i || l j) a' w' (by simpa using hs) (fun j hj => ?_) ?_ h) (hstep l a w i o ho hli hdep hI)
    · by_cases e : j = i
      · subst e
        simp [show j < L.size by omega]
      · rw [getD_set_ne false (Ne.symm e), hl j hj]
        simp [e]
    · have key : ∀ (m : List Nat), m.Nodup → i ∈ m → (m.countP fun j => !(j == i || l j)) + 1 ≤ m.countP fun j => !l j := by
        intro m
        induction m with
        | nil => intro _ h; cases h
        | cons x m ihm =>
          intro hn hm
          obtain ⟨hx, hn'⟩ := List.nodup_cons.1 hn
          rw [List.countP_cons, List.countP_cons]
          have h2 : (m.countP fun j => !(j == i || l j)) ≤ m.countP fun j => !l j := List.countP_mono_left (fun j _ h => by simp at h ⊢; exact h.2)
          by_cases e : x = i
          · subst e
            have e1 : (!(x == x || l x)) = false := by simp
            rw [e1, hli]
            simp only [Bool.not_false, if_true, Bool.false_eq_true, if_false]
            omega
          · have e1 : (!(x == i || l x)) = !l x := by simp [e]
            rw [e1]
            rcases List.mem_cons.1 hm with h | h
            · exact absurd h.symm e
            · have := ihm hn' h
              omega
      have := key (List.range ops.size) List.nodup_range (List.mem_range.2 hlt)
      omega

/-- **A region that draws its order, by an invariant.** -/
theorem wpIn_region_inv {id : Nat} {a : Act} {w : World} (Inv : (Nat → Bool) → Act → World → Prop) (hm : P.follows .mixedOrders = true) (hchk : chkI ops = true) (h0 : Inv (fun _ => false) a w.drew)
    (hstep : ∀ (l : Nat → Bool) a w i o, ops[i]? = some o → l i = false → (∀ e ∈ o.after, Region.binds .any e = true → l e.on = true) → Inv l a w → wpOpIn F n P ops Q i (Inv (fun j => j == i || l j)) a w)
    (hfin : ∀ (l : Nat → Bool) a w, (∀ i, i < ops.size → l i = true) → Inv l a w → Q .normal a w) : (Code.region id ops true).wpIn F n P Q a w := by
  refine wpIn_region_any hm ?_
  refine anyIn_of_inv Inv hchk hstep hfin ops.size _ (fun _ => false) a _ (by simp) (fun j hj => by simp [hj]) ?_ h0
  simp

/-- One operation of it: a light one, or a heavy one. -/
theorem opI {i : Nat} {a : Act} {w : World} {o : Oper} {J : Act → World → Prop} (ho : ops[i]? = some o) (hg : o.guard = none) (h : ∀ K : Act → World → Prop, (∀ a' w', J a' w' → K a' w') → o.wpIn F n P a w K Q) : wpOpIn F n P ops Q i J a w := by
  unfold wpOpIn
  simp only [ho, Region.wanted, hg, if_true]
  exact h J (fun _ _ h => h)
end
end Go.Proofs.YtomfnldlnoiloaaDoor
/- A region that draws its order, an operation at a time: what each leaves, whatever the order. -/
namespace Go.Proofs.YtomfnldlnoiloaaDoor
set_option linter.unusedVariables false
set_option linter.unusedSimpArgs false
open Go

section
variable {F : Fence} {n : Nat} {P : Program} {ops : Array Oper} {Q : Exit → Act → World → Prop}

/-- x's slot is none that y looks at or writes. -/
def aside (ops : Array Oper) (x y : Oper) : Bool := match x.dst with
  | some d => !(y.looksAt ops).contains d && y.dst != some d
  | none => true
theorem aside_spec {x y : Oper} (h : aside ops x y = true) : (∀ d, x.dst = some d → d ∉ y.looksAt ops) ∧ (∀ d, x.dst = some d → y.dst ≠ some d) := by
  refine ⟨fun d hd => ?_, fun d hd => ?_⟩ <;> simp [aside, hd] at h
  · exact h.1
  · exact h.2

theorem wpOpIn_aside {j : Nat} {oi oj : Oper} {v : Value} (hro : F.round = none) (hj : ops[j]? = some oj) (hap : aside ops oi oj = true)
    (hsj : ∀ cs b, oj.op ≠ .select cs b) (hQ : ∀ c a w, Q (.panic c) (a.put oi.dst v) w → Q (.panic c) a w) {K : Act → World → Prop} {a : Act} {w : World}
    (h : wpOpIn F n P ops Q j K (a.put oi.dst v) w) : wpOpIn F n P ops Q j (fun a' w' => (∃ (u : Value) (ds : List Deferred), a' = ({ a with defers := ds } : Act).put oj.dst u) ∧ K (a'.put oi.dst v) w') a w := by
  obtain ⟨h1, h2⟩ := aside_spec hap
  unfold Go.wpOpIn at *
  simp only [hj] at *
  rw [wanted_put oj a oi.dst v h1, about_put oj w a oi.dst v h1] at h
  split
  · rename_i hw
    simp only [hw, if_true] at h
    unfold Oper.wpIn at *
    rw [about_put oj w a oi.dst v h1] at h
    refine ⟨h.1, ?_⟩
    have h := h.2
    rw [hro, Oper.semAt_none, execOp_put oj hsj a oi.dst v h1] at h
    rw [hro, Oper.semAt_none]
    generalize (execOp a.eval oj).run P w = r at *
    cases r with
    | ok x w' =>
      cases x <;> simp only [Oper.uponIn] at h ⊢
      case value u => exact ⟨⟨u, a.defers, rfl⟩, by rw [← Act.put_comm a v u h2]; exact h⟩
      case skip => exact ⟨⟨_, a.defers, rfl⟩, by rw [← Act.put_comm a v undef h2]; exact h⟩
      case defer d =>
        refine ⟨⟨_, d :: a.defers, rfl⟩, ?_⟩
        rw [← Act.put_comm _ v undef h2, ← Act.put_defers]
        exact h
      case enter f args =>
        refine ⟨h.1, CallsIn.mono h.2 fun e w'' he => ?_⟩
        cases e with
        | returned u => exact ⟨⟨u, a.defers, rfl⟩, by rw [← Act.put_comm a v u h2]; exact he⟩
        | panicked c => exact hQ _ _ _ he
        | outgrown => exact he
      case row row args => exact ⟨h.1, RowsIn.mono h.2 fun u w'' he => ⟨⟨u, a.defers, rfl⟩, by rw [← Act.put_comm a v u h2]; exact he⟩⟩
      case round l f tmps assign body =>
        refine ⟨h.1, RoundIn.mono h.2 fun e w'' he => ?_⟩
        cases e with
        | returned u => exact ⟨⟨u, a.defers, rfl⟩, by rw [← Act.put_comm a v u h2]; exact he⟩
        | panicked c => exact hQ _ _ _ he
        | outgrown => exact he
    | halt x w' =>
      cases x <;> simp only [Oper.uponIn] at h ⊢
      case panic u => exact hQ _ _ _ h
  · rename_i hw
    simp only [hw] at h
    exact ⟨h.1, ⟨⟨undef, a.defers, rfl⟩, by rw [← Act.put_comm a v undef h2]; exact h.2⟩⟩

/-- The slots of the region's operations. -/
def dstAt (ops : Array Oper) (i : Nat) : Option Tmp := (ops[i]?).bind (·.dst)
def putL (ops : Array Oper) (val : Nat → Value) : List Nat → Act → Act
  | [], a => a
  | i :: r, a => putL ops val r (a.put (dstAt ops i) (val i))
def distinctD (ops : Array Oper) : Prop := ∀ i j d, i ≠ j → dstAt ops i = some d → dstAt ops j ≠ some d

theorem putL_append (val : Nat → Value) : ∀ (l m : List Nat) (a : Act), putL ops val (l ++ m) a = putL ops val m (putL ops val l a)
  | [], _, _ => rfl
  | i :: l, m, a => by simp only [List.cons_append, putL]; exact putL_append val l m _
theorem putL_perm (hd : distinctD ops) (val : Nat → Value) {l m : List Nat} (h : l.Perm m) : ∀ a, putL ops val l a = putL ops val m a := by
  induction h with
  | nil => intro a; rfl
  | cons x _ ih => intro a; exact ih _
  | swap x y l =>
    intro a
    simp only [putL]
    by_cases e : x = y
    · subst e; rfl
    · rw [Act.put_comm a _ _ (fun d h => hd y x d (Ne.symm e) h)]
  | trans _ _ ih1 ih2 => intro a; rw [ih1, ih2]
theorem put_inj {a : Act} {ds : List Deferred} {x y : Option Tmp} {u v z : Value} (hne : ∀ d, x = some d → y ≠ some d)
    (h : (({ a with defers := ds } : Act).put y u).put x z = (a.put x z).put y v) : ({ a with defers := ds } : Act).put y u = a.put y v := by
  rw [Act.put_comm a z v hne] at h
  cases y with
  | none =>
    cases x with
    | none => exact h
    | some d =>
      simp only [Act.put] at h ⊢
      have h1 := congrArg Act.defers h
      simp at h1
      rw [h1]
  | some d =>
    cases x with
    | none => exact h
    | some e =>
      simp only [Act.put] at h ⊢
      have h1 := congrArg Act.defers h
      have h2 := congrArg Act.tmps h
      simp only at h1 h2
      rw [h1]
      congr 1
      have hne' : e ≠ d := fun he => hne e rfl (he ▸ rfl)
      by_cases hlt : d < a.tmps.size
      · have h3 := congrArg (fun t : Array Value => t[d]?) h2
        simp only [Array.getElem?_setIfInBounds_ne hne', Array.getElem?_setIfInBounds_self, hlt, if_true, Option.some.injEq] at h3
        rw [h3]
      · simp only [Array.setIfInBounds, hlt, dite_false]

theorem wpOpIn_strip {j : Nat} {oj : Oper} (hro : F.round = none) (hj : ops[j]? = some oj) (hsj : ∀ cs b, oj.op ≠ .select cs b)
    (hQ : ∀ c (d : Option Tmp) (v : Value) a w, Q (.panic c) (a.put d v) w → Q (.panic c) a w) (val : Nat → Value) {R : Value → World → Prop} {w : World} :
    ∀ (S : List Nat) (b : Act), (∀ i ∈ S, ∃ oi, ops[i]? = some oi ∧ aside ops oi oj = true) →
      wpOpIn F n P ops Q j (fun a' w' => ∃ v, a' = (putL ops val S b).put oj.dst v ∧ R v w') (putL ops val S b) w →
      wpOpIn F n P ops Q j (fun a' w' => ∃ v, a' = b.put oj.dst v ∧ R v w') b w
  | [], b, _, h => h
  | i :: S, b, hS, h => by
    obtain ⟨oi, hoi, hap⟩ := hS i (by simp)
    have h1 := wpOpIn_strip hro hj hsj hQ val S _ (fun k hk => hS k (by simp [hk])) h
    have e : dstAt ops i = oi.dst := by simp [dstAt, hoi]
    rw [e] at h1
    have h2 := wpOpIn_aside hro hj hap hsj (fun c a w => hQ c _ _ a w) h1
    refine wpOpIn_mono (fun a' w' h3 => ?_) h2
    obtain ⟨⟨u, ds, rfl⟩, v, he, hR⟩ := h3
    exact ⟨v, put_inj (aside_spec hap).2 he, hR⟩

/-- The look at the region; guards let in. -/
def chkH (ops : Array Oper) : Bool := chkI ops && Region.noSelect ops && (List.range ops.size).all fun j => match ops[j]? with
  | some oj => (List.range ops.size).all fun i => i == j || match ops[i]? with
    | some oi => (oj.after.any fun e => Region.binds .any e && e.on == i) || aside ops oi oj
    | none => true
  | none => true
theorem chkH_spec (h : chkH ops = true) : chkI ops = true ∧ (∀ (j : Nat) (o : Oper) cs b, ops[j]? = some o → o.op ≠ .select cs b) ∧
    ∀ (i j : Nat) (oi oj : Oper), i ≠ j → ops[i]? = some oi → ops[j]? = some oj → (∃ e ∈ oj.after, Region.binds .any e = true ∧ e.on = i) ∨ aside ops oi oj = true := by
  simp only [chkH, Bool.and_eq_true, List.all_eq_true, List.mem_range] at h
  obtain ⟨⟨h1, h2⟩, h3⟩ := h
  refine ⟨h1, Region.noSelect_spec h2, fun i j oi oj hne hi hj => ?_⟩
  have hlt : j < ops.size := (Array.getElem?_eq_some_iff.1 hj).1
  have hlt' : i < ops.size := (Array.getElem?_eq_some_iff.1 hi).1
  have := h3 j hlt
  rw [hj] at this
  simp only [List.all_eq_true, List.mem_range] at this
  have := this i hlt'
  rw [hi] at this
  simp only [Bool.or_eq_true, beq_iff_eq, hne, false_or, Array.any_eq_true'] at this
  rcases this with ⟨e, he, hb⟩ | h
  · simp at hb; exact .inl ⟨e, he, hb.1, hb.2⟩
  · exact .inr h
/-- The look at the region. -/
def chkG (ops : Array Oper) : Bool := chkI ops && Region.noSelect ops && (List.range ops.size).all fun j => match ops[j]? with
  | some oj => oj.guard.isNone && (List.range ops.size).all fun i => i == j || match ops[i]? with
    | some oi => (oj.after.any fun e => Region.binds .any e && e.on == i) || aside ops oi oj
    | none => true
  | none => true

theorem chkG_spec (h : chkG ops = true) : chkI ops = true ∧ (∀ (j : Nat) (o : Oper) cs b, ops[j]? = some o → o.op ≠ .select cs b) ∧ (∀ (j : Nat) (oj : Oper), ops[j]? = some oj → oj.guard = none) ∧
    ∀ (i j : Nat) (oi oj : Oper), i ≠ j → ops[i]? = some oi → ops[j]? = some oj → (∃ e ∈ oj.after, Region.binds .any e = true ∧ e.on = i) ∨ aside ops oi oj = true := by
  simp only [chkG, Bool.and_eq_true, List.all_eq_true, List.mem_range] at h
  obtain ⟨⟨h1, h2⟩, h3⟩ := h
  refine ⟨h1, Region.noSelect_spec h2, fun j oj hj => ?_, fun i j oi oj hne hi hj => ?_⟩
  · have hlt : j < ops.size := (Array.getElem?_eq_some_iff.1 hj).1
    have := h3 j hlt
    rw [hj] at this
    simp only [Bool.and_eq_true, Option.isNone_iff_eq_none] at this
    exact this.1
  · have hlt : j < ops.size := (Array.getElem?_eq_some_iff.1 hj).1
    have hlt' : i < ops.size := (Array.getElem?_eq_some_iff.1 hi).1
    have := h3 j hlt
    rw [hj] at this
    simp only [Bool.and_eq_true, List.all_eq_true, List.mem_range] at this
    have := this.2 i hlt'
    rw [hi] at this
    simp only [Bool.or_eq_true, beq_iff_eq, hne, false_or, Array.any_eq_true'] at this
    rcases this with ⟨e, he, hb⟩ | h
    · simp at hb; exact .inl ⟨e, he, hb.1, hb.2⟩
    · exact .inr h

def putD (val : Nat → Value) : List (Option Tmp) → Nat → Act → Act
  | [], _, a => a
  | d :: r, k, a => putD val r (k + 1) (a.put d (val k))
theorem putD_eq (val : Nat → Value) : ∀ (m k : Nat) (a : Act), putD val ((List.range' k m).map (dstAt ops)) k a = putL ops val (List.range' k m) a
  | 0, _, _ => rfl
  | m + 1, k, a => by simp only [List.range'_succ, List.map_cons, putD, putL]; exact putD_eq val m (k + 1) _

theorem filter_add {l : Nat → Bool} {i : Nat} (hl : l i = false) : ∀ (m : List Nat), m.Nodup → i ∈ m → (m.filter fun j => j == i || l j).Perm (i :: m.filter l)
  | [], _, h => by cases h
  | x :: m, hn, h => by
    obtain ⟨hx, hn'⟩ := List.nodup_cons.1 hn
    by_cases e : x = i
    · subst e
      have h1 : (m.filter fun j => j == x || l j) = m.filter l := List.filter_congr fun j hj => by
        have : j ≠ x := fun h => hx (h ▸ hj)
        simp [this]
      simp only [List.filter_cons, beq_self_eq_true, Bool.true_or, if_true, hl, Bool.false_eq_true, if_false, h1]
      exact List.Perm.refl _
    · have ih := filter_add hl m hn' (by rcases List.mem_cons.1 h with h | h; exact absurd h.symm e; exact h)
      cases hlx : l x with
      | false => simpa [List.filter_cons, e, hlx] using ih
      | true =>
        simp only [List.filter_cons, hlx, Bool.or_true, if_true]
        exact (ih.cons x).trans (List.Perm.swap i x _)
theorem putL_congr {val val' : Nat → Value} : ∀ (l : List Nat) (a : Act), (∀ i ∈ l, val i = val' i) → putL ops val l a = putL ops val' l a
  | [], _, _ => rfl
  | i :: l, a, h => by
    simp only [putL]
    rw [h i (by simp)]
    exact putL_congr l _ (fun k hk => h k (by simp [hk]))

/-- **A region that draws its order, an operation at a time.** V i: what operation i leaves; G i: what it does to the world; C: what holds throughout. -/
theorem wpIn_region_eachH {id : Nat} {a : Act} {w : World} (ds : List (Option Tmp)) (dv : Nat → Value) (V : Nat → Value → World → Prop) (G : Nat → World → World → Prop) (C : World → Prop) (hro : F.round = none) (hm : P.follows .mixedOrders = true)
    (hchk : chkH ops = true) (hds : ops.toList.map (·.dst) = ds) (hQ : ∀ c (d : Option Tmp) (v : Value) a w, Q (.panic c) (a.put d v) w → Q (.panic c) a w)
    (h0 : C w.drew) (hC : ∀ j W W', C W → G j W W' → C W') (hstab : ∀ i j v W W', i ≠ j → C W → V i v W → G j W W' → V i v W')
    (hop : ∀ i o, ops[i]? = some o → ∀ (val : Nat → Value) W, C W → (∀ j, j ≠ i → val j = dv j ∨ V j (val j) W) → (∀ e ∈ o.after, Region.binds .any e = true → V e.on (val e.on) W) →
      ∀ K : Act → World → Prop, (∀ v w', G i W w' → V i v w' → K ((putD val ds 0 a).put o.dst v) w') → Region.wanted o (yielded ops (putD val ds 0 a).tmps) = true ∧ o.wpIn F n P (putD val ds 0 a) W K Q)
    (hfin : ∀ (val : Nat → Value) W, C W → (∀ i, i < ops.size → V i (val i) W) → Q .normal (putD val ds 0 a) W) : (Code.region id ops true).wpIn F n P Q a w := by
  obtain ⟨c1, c2, c4⟩ := chkH_spec hchk
  have hdist : distinctD ops := by
    intro i j d hne hi hj
    unfold dstAt at hi hj
    cases hoi : ops[i]? with
    | none => rw [hoi] at hi; cases hi
    | some oi =>
      cases hoj : ops[j]? with
      | none => rw [hoj] at hj; cases hj
      | some oj =>
        rw [hoi] at hi
        rw [hoj] at hj
        simp only [Option.bind_some] at hi hj
        have key : ∀ i j (oi oj : Oper), i ≠ j → ops[i]? = some oi → ops[j]? = some oj → oi.dst = some d → oj.dst = some d → (∃ e ∈ oj.after, Region.binds .any e = true ∧ e.on = i) := fun i j oi oj hne hoi hoj hi hj => by
          rcases c4 i j oi oj hne hoi hoj with h | h
          · exact h
          · exact absurd hj ((aside_spec h).2 d hi)
        obtain ⟨e, he, hb, rfl⟩ := key i j oi oj hne hoi hoj hi hj
        obtain ⟨e', he', hb', rfl⟩ := key _ _ oj oi (Ne.symm hne) hoj hoi hj hi
        have lt : ∀ i (o : Oper) e, ops[i]? = some o → e ∈ o.after → Region.binds .any e = true → e.on < i := fun i o e ho he hb => by
          have h1 := List.all_eq_true.1 c1 i (List.mem_range.2 (Array.getElem?_eq_some_iff.1 ho).1)
          simp only [ho] at h1
          have h2 := Array.all_eq_true'.1 h1 e he
          rw [hb] at h2
          simpa using h2
        have := lt _ _ e hoj he hb
        have := lt _ _ e' hoi he' hb'
        omega
  have hcan : ∀ val, putD val ds 0 a = putL ops val (List.range ops.size) a := fun val => by
    rw [List.range_eq_range', ← putD_eq, ← List.range_eq_range', ← hds]
    congr 1
    apply List.ext_getElem?
    intro i
    rw [List.getElem?_map, List.getElem?_map, Array.getElem?_toList]
    by_cases hlt : i < ops.size
    · rw [List.getElem?_range hlt]; simp [dstAt, hlt]
    · rw [Array.getElem?_eq_none (by omega), List.getElem?_eq_none (by simp; omega)]; rfl
  refine wpIn_region_inv (fun l a' W => ∃ val, a' = putL ops val ((List.range ops.size).filter l) a ∧ C W ∧ ∀ i, i < ops.size → l i = true → V i (val i) W) hm c1 ⟨fun _ => undef, ?_, h0, fun _ _ h => by cases h⟩ ?_ ?_
  · rw [List.filter_eq_nil_iff.2 (fun _ _ => by simp)]; rfl
  · rintro l _ W i o hi hli hdep ⟨val, rfl, hCW, hV⟩
    have hlt : i < ops.size := (Array.getElem?_eq_some_iff.1 hi).1
    have lt : ∀ e ∈ o.after, e.on < ops.size ∨ ops[e.on]? = none := fun e _ => by
      rcases Nat.lt_or_ge e.on ops.size with h | h
      · exact .inl h
      · exact .inr (Array.getElem?_eq_none h)
    have hown : ∃ x : Value, (putL ops val ((List.range ops.size).filter l) a).put o.dst x = putL ops val ((List.range ops.size).filter l) a := by
      generalize putL ops val ((List.range ops.size).filter l) a = b
      cases o.dst with
      | none => exact ⟨undef, rfl⟩
      | some d =>
        by_cases hd : d < b.tmps.size
        · refine ⟨b.tmps[d], ?_⟩
          simp [Act.put, Array.setIfInBounds, hd]
        · exact ⟨undef, by simp [Act.put, Array.setIfInBounds, hd]⟩
    obtain ⟨x, hx⟩ := hown
    have hdi : dstAt ops i = o.dst := by simp [dstAt, hi]
    have hval : ∀ k ∈ (List.range ops.size).filter l, val k = (fun j => if j = i then x else if l j && decide (j < ops.size) then val j else dv j) k := fun k hk => by
      have : k ≠ i := fun h => by
        have := (List.mem_filter.1 hk).2
        rw [h, hli] at this
        cases this
      have h2 := List.mem_filter.1 hk
      have h3 := List.mem_range.1 h2.1
      simp [this, h2.2, h3]
    have hl2 : ((List.range ops.size).filter fun j => !l j) = (List.range ops.size).filter fun j => j == i || !(j == i || l j) := List.filter_congr fun j _ => by
      by_cases e : j = i
      · subst e; simp [hli]
      · have e' : (j == i) = false := by simpa using e
        simp only [e', Bool.false_or]
    have hsplit : putD (fun j => if j = i then x else if l j && decide (j < ops.size) then val j else dv j) ds 0 a = putL ops (fun j => if j = i then x else if l j && decide (j < ops.size) then val j else dv j) ((List.range ops.size).filter fun j => !(j == i || l j)) (putL ops val ((List.range ops.size).filter l) a) := by
      rw [hcan]
      rw [putL_perm hdist _ (List.filter_append_perm l _).symm a, putL_append, ← putL_congr _ _ hval, hl2]
      rw [putL_perm hdist _ (filter_add (l := fun j => !(j == i || l j)) (by simp) _ List.nodup_range (List.mem_range.2 hlt))]
      simp only [putL, if_true, hdi, hx]
    have h1 := hop i o hi (fun j => if j = i then x else if l j && decide (j < ops.size) then val j else dv j) W hCW (fun j hj => by
      simp only [hj, if_false]
      by_cases hlj : l j = true ∧ j < ops.size
      · right
        simp only [hlj.1, hlj.2, decide_true, Bool.and_self, if_true]
        exact hV j hlj.2 hlj.1
      · left
        rw [if_neg (by simpa using hlj)]) (fun e he hb => by
      have h1 := List.all_eq_true.1 c1 i (List.mem_range.2 hlt)
      simp only [hi] at h1
      have h2 := Array.all_eq_true'.1 h1 e he
      rw [hb] at h2
      have hlt' : e.on < i := by simpa using h2
      have hne : e.on ≠ i := by omega
      have hlt2 : e.on < ops.size := by omega
      simp only [hne, if_false, hdep e he hb, hlt2, decide_true, Bool.and_self, if_true]
      exact hV _ hlt2 (hdep e he hb))
      (fun a' w' => ∃ v, a' = (putD (fun j => if j = i then x else if l j && decide (j < ops.size) then val j else dv j) ds 0 a).put o.dst v ∧ (G i W w' ∧ V i v w')) (fun v w' hG hv => ⟨v, rfl, hG, hv⟩)
    have h2 : wpOpIn F n P ops Q i (fun a' w' => ∃ v, a' = (putD (fun j => if j = i then x else if l j && decide (j < ops.size) then val j else dv j) ds 0 a).put o.dst v ∧ (G i W w' ∧ V i v w')) (putD (fun j => if j = i then x else if l j && decide (j < ops.size) then val j else dv j) ds 0 a) W := by
      unfold wpOpIn
      simp only [hi]
      rw [if_pos h1.1]
      exact h1.2
    rw [hsplit] at h2
    have h3 := wpOpIn_strip (R := fun v w' => G i W w' ∧ V i v w') hro hi (fun cs b => c2 i o cs b hi) hQ (fun j => if j = i then x else if l j && decide (j < ops.size) then val j else dv j) ((List.range ops.size).filter fun j => !(j == i || l j))
      (putL ops val ((List.range ops.size).filter l) a) ?_ h2
    · refine wpOpIn_mono (fun a' w' h => ?_) h3
      obtain ⟨v, rfl, hG, hv⟩ := h
      refine ⟨fun j => if j = i then v else val j, ?_, hC _ _ _ hCW hG, fun j hj hlj => ?_⟩
      · have e1 : putL ops val ((List.range ops.size).filter l) a = putL ops (fun j => if j = i then v else val j) ((List.range ops.size).filter l) a := putL_congr _ _ (fun k hk => by
          have : k ≠ i := fun h => by
            have := (List.mem_filter.1 hk).2
            rw [h, hli] at this
            cases this
          simp [this])
        rw [putL_perm hdist _ ((filter_add hli _ List.nodup_range (List.mem_range.2 hlt)).trans (List.perm_append_singleton i _).symm) a, putL_append, ← e1]
        simp [putL, dstAt, hi]
      · by_cases e : j = i
        · subst e; simpa using hv
        · simp only [e, if_false]
          refine hstab j i _ W w' e hCW (hV j hj ?_) hG
          simpa [e] using hlj
    · intro k hk
      obtain ⟨hk1, hk2⟩ := List.mem_filter.1 hk
      have hk1 := List.mem_range.1 hk1
      have e : k ≠ i := fun h => by subst h; simp at hk2
      rcases c4 k i _ o e (Array.getElem?_eq_getElem hk1) hi with ⟨e', he', hb', rfl⟩ | h
      · have := hdep e' he' hb'
        simp [this] at hk2
      · exact ⟨_, Array.getElem?_eq_getElem hk1, h⟩
  · rintro l _ W hall ⟨val, rfl, hCW, hV⟩
    have : (List.range ops.size).filter l = List.range ops.size := List.filter_eq_self.2 fun i hi => hall i (List.mem_range.1 hi)
    rw [this, ← hcan]
    exact hfin val W hCW (fun i hi => hV i hi (hall i hi))

theorem wpIn_region_each {id : Nat} {a : Act} {w : World} (ds : List (Option Tmp)) (dv : Nat → Value) (V : Nat → Value → World → Prop) (G : Nat → World → World → Prop) (C : World → Prop) (hro : F.round = none) (hm : P.follows .mixedOrders = true)
    (hchk : chkG ops = true) (hds : ops.toList.map (·.dst) = ds) (hQ : ∀ c (d : Option Tmp) (v : Value) a w, Q (.panic c) (a.put d v) w → Q (.panic c) a w)
    (h0 : C w.drew) (hC : ∀ j W W', C W → G j W W' → C W') (hstab : ∀ i j v W W', i ≠ j → C W → V i v W → G j W W' → V i v W')
    (hop : ∀ i o, ops[i]? = some o → ∀ (val : Nat → Value) W, C W → (∀ j, j ≠ i → val j = dv j ∨ V j (val j) W) → (∀ e ∈ o.after, Region.binds .any e = true → V e.on (val e.on) W) →
      ∀ K : Act → World → Prop, (∀ v w', G i W w' → V i v w' → K ((putD val ds 0 a).put o.dst v) w') → o.wpIn F n P (putD val ds 0 a) W K Q)
    (hfin : ∀ (val : Nat → Value) W, C W → (∀ i, i < ops.size → V i (val i) W) → Q .normal (putD val ds 0 a) W) : (Code.region id ops true).wpIn F n P Q a w := by
  obtain ⟨c1, c2, c3, c4⟩ := chkG_spec hchk
  have hH : chkH ops = true := by
    simp only [chkG, Bool.and_eq_true, List.all_eq_true, List.mem_range] at hchk
    simp only [chkH, Bool.and_eq_true, List.all_eq_true, List.mem_range]
    refine ⟨hchk.1, fun j hj => ?_⟩
    have := hchk.2 j hj
    rw [Array.getElem?_eq_getElem hj] at this ⊢
    simp only [Bool.and_eq_true] at this
    exact this.2
  refine wpIn_region_eachH ds dv V G C hro hm hH hds hQ h0 hC hstab (fun i o hi val W hCW hd hdep K hK => ⟨?_, hop i o hi val W hCW hd hdep K hK⟩) hfin
  have hg := c3 i o hi
  unfold Region.wanted
  rw [hg]

def opsAll (f : Nat → Oper → Prop) : List Oper → Nat → Prop
  | [], _ => True
  | o :: r, k => f k o ∧ opsAll f r (k + 1)
theorem opsAll_get {f : Nat → Oper → Prop} : ∀ (l : List Oper) (k : Nat), opsAll f l k → ∀ i o, l[i]? = some o → f (k + i) o
  | [], _, _, i, o, h => by simp at h
  | x :: l, k, h, 0, o, hi => by simp at hi; subst hi; exact h.1
  | x :: l, k, h, i + 1, o, hi => by
    have := opsAll_get l (k + 1) h.2 i o (by simpa using hi)
    rwa [show k + 1 + i = k + (i + 1) by omega] at this
def depAll (p : Nat → Prop) : List Edge → Prop
  | [] => True
  | e :: r => (if Region.binds .any e then p e.on else True) ∧ depAll p r
theorem depAll_of {p : Nat → Prop} : ∀ (l : List Edge), (∀ e ∈ l, Region.binds .any e = true → p e.on) → depAll p l
  | [], _ => trivial
  | e :: l, h => ⟨by split; exact h e (by simp) (by assumption); trivial, depAll_of l (fun x hx => h x (by simp [hx]))⟩

theorem op_li {o : Oper} {a : Act} {w : World} {K : Act → World → Prop} (hro : F.round = none) (h : o.about P w a.eval = none ∧ liUpon w (fun v => K (a.put o.dst v) w) ((execOp a.eval o).run P w)) : o.wpIn F n P a w K Q := by
  obtain ⟨hab, h⟩ := h
  unfold Oper.wpIn
  refine ⟨fun f hf => (by rw [hab] at hf; cases hf), ?_⟩
  rw [hro, Oper.semAt_none]
  generalize (execOp a.eval o).run P w = r at *
  unfold liUpon at h
  split at h
  · obtain ⟨rfl, h⟩ := h
    exact h
  · exact h.elim
def nthV : List Value → Nat → Value
  | [], _ => undef
  | x :: _, 0 => x
  | _ :: l, n + 1 => nthV l n
/-- **Each operation hands back a value that is known ahead.** -/
theorem wpIn_region_vals {id : Nat} {a : Act} {w : World} (ds : List (Option Tmp)) (vs : Nat → Value) (C : World → Prop) (hro : F.round = none) (hm : P.follows .mixedOrders = true)
    (hchk : chkG ops = true) (hds : ops.toList.map (·.dst) = ds) (hQ : ∀ c (d : Option Tmp) (v : Value) a w, Q (.panic c) (a.put d v) w → Q (.panic c) a w)
    (h0 : C w.drew) (hop : opsAll (fun i o => ∀ x W, C W → ∀ K : Act → World → Prop, (∀ w', C w' → K ((putD (fun j => if j = i then x else vs j) ds 0 a).put o.dst (vs i)) w') → o.wpIn F n P (putD (fun j => if j = i then x else vs j) ds 0 a) W K Q) ops.toList 0)
    (hfin : ∀ W, C W → Q .normal (putD vs ds 0 a) W) : (Code.region id ops true).wpIn F n P Q a w := by
  refine wpIn_region_each ds vs (fun i v _ => v = vs i) (fun _ _ W' => C W') C hro hm hchk hds hQ h0 (fun _ _ _ _ h => h) (fun _ _ _ _ _ _ _ h _ => h) (fun i o hi val W hCW hd _ K hK => ?_) (fun val W hCW hV => ?_)
  · have hv : val = fun j => if j = i then val i else vs j := by
      funext j
      by_cases e : j = i
      · subst e; simp
      · simp only [e, if_false]
        rcases hd j e with h | h <;> exact h
    have := opsAll_get _ _ hop i o (by rw [Array.getElem?_toList]; exact hi) (val i) W hCW K
    simp only [Nat.zero_add] at this
    rw [← hv] at this
    exact this (fun w' hC' => hK _ _ hC' rfl)
  · have key : ∀ (l : List (Option Tmp)) (k : Nat) (b : Act), k + l.length ≤ ops.size → putD val l k b = putD vs l k b := by
      intro l
      induction l with
      | nil => intro k b _; rfl
      | cons d r ih =>
        intro k b h
        simp only [List.length_cons] at h
        simp only [putD]
        rw [hV k (by omega), ih (k + 1) _ (by omega)]
    rw [key ds 0 a (by rw [← hds]; simp)]
    exact hfin W hCW

/-- The same, guards let in. -/
theorem wpIn_region_valsG {id : Nat} {a : Act} {w : World} (ds : List (Option Tmp)) (vs : Nat → Value) (C : World → Prop) (hro : F.round = none) (hm : P.follows .mixedOrders = true)
    (hchk : chkH ops = true) (hds : ops.toList.map (·.dst) = ds) (hQ : ∀ c (d : Option Tmp) (v : Value) a w, Q (.panic c) (a.put d v) w → Q (.panic c) a w)
    (h0 : C w.drew) (hop : opsAll (fun i o => ∀ x W, C W → ∀ K : Act → World → Prop, (∀ w', C w' → K ((putD (fun j => if j = i then x else vs j) ds 0 a).put o.dst (vs i)) w') → Region.wanted o (yielded ops (putD (fun j => if j = i then x else vs j) ds 0 a).tmps) = true ∧ o.wpIn F n P (putD (fun j => if j = i then x else vs j) ds 0 a) W K Q) ops.toList 0)
    (hfin : ∀ W, C W → Q .normal (putD vs ds 0 a) W) : (Code.region id ops true).wpIn F n P Q a w := by
  refine wpIn_region_eachH ds vs (fun i v _ => v = vs i) (fun _ _ W' => C W') C hro hm hchk hds hQ h0 (fun _ _ _ _ h => h) (fun _ _ _ _ _ _ _ h _ => h) (fun i o hi val W hCW hd _ K hK => ?_) (fun val W hCW hV => ?_)
  · have hv : val = fun j => if j = i then val i else vs j := by
      funext j
      by_cases e : j = i
      · subst e; simp
      · simp only [e, if_false]
        rcases hd j e with h | h <;> exact h
    have := opsAll_get _ _ hop i o (by rw [Array.getElem?_toList]; exact hi) (val i) W hCW K
    simp only [Nat.zero_add] at this
    rw [← hv] at this
    exact this (fun w' hC' => hK _ _ hC' rfl)
  · have key : ∀ (l : List (Option Tmp)) (k : Nat) (b : Act), k + l.length ≤ ops.size → putD val l k b = putD vs l k b := by
      intro l
      induction l with
      | nil => intro k b _; rfl
      | cons d r ih =>
        intro k b h
        simp only [List.length_cons] at h
        simp only [putD]
        rw [hV k (by omega), ih (k + 1) _ (by omega)]
    rw [key ds 0 a (by rw [← hds]; simp)]
    exact hfin W hCW

theorem wpIn_region_ops {id : Nat} {a : Act} {w : World} (ds : List (Option Tmp)) (V : Nat → Value → World → Prop) (G : Nat → World → World → Prop) (C : World → Prop) (hro : F.round = none) (hm : P.follows .mixedOrders = true)
    (hchk : chkG ops = true) (hds : ops.toList.map (·.dst) = ds) (hQ : ∀ c (d : Option Tmp) (v : Value) a w, Q (.panic c) (a.put d v) w → Q (.panic c) a w)
    (h0 : C w.drew) (hC : ∀ j W W', C W → G j W W' → C W') (hstab : ∀ i j v W W', i ≠ j → C W → V i v W → G j W W' → V i v W')
    (hop : opsAll (fun i o => ∀ (val : Nat → Value) W, C W → depAll (fun j => V j (val j) W) o.after.toList →
      ∀ K : Act → World → Prop, (∀ v w', G i W w' → V i v w' → K ((putD val ds 0 a).put o.dst v) w') → o.wpIn F n P (putD val ds 0 a) W K Q) ops.toList 0)
    (hfin : ∀ (val : Nat → Value) W, C W → depAll (fun i => V i (val i) W) ((List.range ops.size).map fun i => ⟨i, .data⟩) → Q .normal (putD val ds 0 a) W) : (Code.region id ops true).wpIn F n P Q a w := by
  refine wpIn_region_each ds (fun _ => undef) V G C hro hm hchk hds hQ h0 hC hstab (fun i o hi val W hCW _ hd K hK => ?_) (fun val W hCW hV => hfin val W hCW (depAll_of _ (fun e he _ => ?_)))
  · have := opsAll_get _ _ hop i o (by rw [Array.getElem?_toList]; exact hi) val W hCW (depAll_of _ (fun e he hb => hd e (by simpa using he) hb)) K
    simp only [Nat.zero_add] at this
    exact this hK
  · obtain ⟨i, hi, rfl⟩ := List.mem_map.1 he
    exact hV i (List.mem_range.1 hi)
end
end Go.Proofs.YtomfnldlnoiloaaDoor
/- A region that draws its order, by a law of what has been done. -/
namespace Go.Proofs.YtomfnldlnoiloaaDoor
set_option linter.unusedVariables false
set_option linter.unusedSimpArgs false
open Go

section
variable {F : Fence} {n : Nat} {P : Program} {ops : Array Oper} {Q : Exit → Act → World → Prop}

/-- **A region that draws its order, an operation at a time, by a law of what has been done (l), what that handed back (val) and the world.** -/
theorem wpIn_region_joint {id : Nat} {a : Act} {w : World} (ds : List (Option Tmp)) (dv : Nat → Value) (J : (Nat → Bool) → (Nat → Value) → World → Prop) (hro : F.round = none) (hm : P.follows .mixedOrders = true)
    (hchk : chkH ops = true) (hds : ops.toList.map (·.dst) = ds) (hQ : ∀ c (d : Option Tmp) (v : Value) a w, Q (.panic c) (a.put d v) w → Q (.panic c) a w)
    (h0 : J (fun _ => false) (fun _ => undef) w.drew)
    (hop : ∀ i o, ops[i]? = some o → ∀ (l : Nat → Bool) (val val' : Nat → Value) W, l i = false → (∀ j, j ≠ i → (j < ops.size ∧ l j = true ∧ val' j = val j) ∨ val' j = dv j) → (∀ e ∈ o.after, Region.binds .any e = true → l e.on = true ∧ val' e.on = val e.on) → J l val W →
      ∀ K : Act → World → Prop, (∀ v w', J (fun j => j == i || l j) (fun j => if j = i then v else val j) w' → K ((putD val' ds 0 a).put o.dst v) w') → Region.wanted o (yielded ops (putD val' ds 0 a).tmps) = true ∧ o.wpIn F n P (putD val' ds 0 a) W K Q)
    (hfin : ∀ (l : Nat → Bool) (val : Nat → Value) W, (∀ i, i < ops.size → l i = true) → J l val W → Q .normal (putD val ds 0 a) W) : (Code.region id ops true).wpIn F n P Q a w := by
  obtain ⟨c1, c2, c4⟩ := chkH_spec hchk
  have hdist : distinctD ops := by
    intro i j d hne hi hj
    unfold dstAt at hi hj
    cases hoi : ops[i]? with
    | none => rw [hoi] at hi; cases hi
    | some oi =>
      cases hoj : ops[j]? with
      | none => rw [hoj] at hj; cases hj
      | some oj =>
        rw [hoi] at hi
        rw [hoj] at hj
        simp only [Option.bind_some] at hi hj
        have key : ∀ i j (oi oj : Oper), i ≠ j → ops[i]? = some oi → ops[j]? = some oj → oi.dst = some d → oj.dst = some d → (∃ e ∈ oj.after, Region.binds .any e = true ∧ e.on = i) := fun i j oi oj hne hoi hoj hi hj => by
          rcases c4 i j oi oj hne hoi hoj with h | h
          · exact h
          · exact absurd hj ((aside_spec h).2 d hi)
        obtain ⟨e, he, hb, rfl⟩ := key i j oi oj hne hoi hoj hi hj
        obtain ⟨e', he', hb', rfl⟩ := key _ _ oj oi (Ne.symm hne) hoj hoi hj hi
        have lt : ∀ i (o : Oper) e, ops[i]? = some o → e ∈ o.after → Region.binds .any e = true → e.on < i := fun i o e ho he hb => by
          have h1 := List.all_eq_true.1 c1 i (List.mem_range.2 (Array.getElem?_eq_some_iff.1 ho).1)
          simp only [ho] at h1
          have h2 := Array.all_eq_true'.1 h1 e he
          rw [hb] at h2
          simpa using h2
        have := lt _ _ e hoj he hb
        have := lt _ _ e' hoi he' hb'
        omega
  have hcan : ∀ val, putD val ds 0 a = putL ops val (List.range ops.size) a := fun val => by
    rw [List.range_eq_range', ← putD_eq, ← List.range_eq_range', ← hds]
    congr 1
    apply List.ext_getElem?
    intro i
    rw [List.getElem?_map, List.getElem?_map, Array.getElem?_toList]
    by_cases hlt : i < ops.size
    · rw [List.getElem?_range hlt]; simp [dstAt, hlt]
    · rw [Array.getElem?_eq_none (by omega), List.getElem?_eq_none (by simp; omega)]; rfl
  refine wpIn_region_inv (fun l a' W => ∃ val, a' = putL ops val ((List.range ops.size).filter l) a ∧ J l val W) hm c1 ⟨fun _ => undef, ?_, h0⟩ ?_ ?_
  · rw [List.filter_eq_nil_iff.2 (fun _ _ => by simp)]; rfl
  · rintro l _ W i o hi hli hdep ⟨val, rfl, hV⟩
    have hlt : i < ops.size := (Array.getElem?_eq_some_iff.1 hi).1
    have lt : ∀ e ∈ o.after, e.on < ops.size ∨ ops[e.on]? = none := fun e _ => by
      rcases Nat.lt_or_ge e.on ops.size with h | h
      · exact .inl h
      · exact .inr (Array.getElem?_eq_none h)
    have hown : ∃ x : Value, (putL ops val ((List.range ops.size).filter l) a).put o.dst x = putL ops val ((List.range ops.size).filter l) a := by
      generalize putL ops val ((List.range ops.size).filter l) a = b
      cases o.dst with
      | none => exact ⟨undef, rfl⟩
      | some d =>
        by_cases hd : d < b.tmps.size
        · refine ⟨b.tmps[d], ?_⟩
          simp [Act.put, Array.setIfInBounds, hd]
        · exact ⟨undef, by simp [Act.put, Array.setIfInBounds, hd]⟩
    obtain ⟨x, hx⟩ := hown
    have hdi : dstAt ops i = o.dst := by simp [dstAt, hi]
    have hval : ∀ k ∈ (List.range ops.size).filter l, val k = (fun j => if j = i then x else if l j && decide (j < ops.size) then val j else dv j) k := fun k hk => by
      have : k ≠ i := fun h => by
        have := (List.mem_filter.1 hk).2
        rw [h, hli] at this
        cases this
      have h2 := List.mem_filter.1 hk
      have h3 := List.mem_range.1 h2.1
      simp [this, h2.2, h3]
    have hl2 : ((List.range ops.size).filter fun j => !l j) = (List.range ops.size).filter fun j => j == i || !(j == i || l j) := List.filter_congr fun j _ => by
      by_cases e : j = i
      · subst e; simp [hli]
      · have e' : (j == i) = false := by simpa using e
        simp only [e', Bool.false_or]
    have hsplit : putD (fun j => if j = i then x else if l j && decide (j < ops.size) then val j else dv j) ds 0 a = putL ops (fun j => if j = i then x else if l j && decide (j < ops.size) then val j else dv j) ((List.range ops.size).filter fun j => !(j == i || l j)) (putL ops val ((List.range ops.size).filter l) a) := by
      rw [hcan]
      rw [putL_perm hdist _ (List.filter_append_perm l _).symm a, putL_append, ← putL_congr _ _ hval, hl2]
      rw [putL_perm hdist _ (filter_add (l := fun j => !(j == i || l j)) (by simp) _ List.nodup_range (List.mem_range.2 hlt))]
      simp only [putL, if_true, hdi, hx]
    have h1 := hop i o hi l val (fun j => if j = i then x else if l j && decide (j < ops.size) then val j else dv j) W hli (fun j hj => by
      by_cases hlj : l j = true ∧ j < ops.size
      · exact .inl ⟨hlj.2, hlj.1, by simp [hj, hlj.1, hlj.2]⟩
      · right
        simp only [hj, if_false]
        rw [if_neg (by simpa using hlj)]) (fun e he hb => by
      have h1 := List.all_eq_true.1 c1 i (List.mem_range.2 hlt)
      simp only [hi] at h1
      have h2 := Array.all_eq_true'.1 h1 e he
      rw [hb] at h2
      have hlt' : e.on < i := by simpa using h2
      have hne : e.on ≠ i := by omega
      have hlt2 : e.on < ops.size := by omega
      exact ⟨hdep e he hb, by simp [hne, hdep e he hb, hlt2]⟩) hV
      (fun a' w' => ∃ v, a' = (putD (fun j => if j = i then x else if l j && decide (j < ops.size) then val j else dv j) ds 0 a).put o.dst v ∧ J (fun j => j == i || l j) (fun j => if j = i then v else val j) w') (fun v w' hJ => ⟨v, rfl, hJ⟩)
    have h2 : wpOpIn F n P ops Q i (fun a' w' => ∃ v, a' = (putD (fun j => if j = i then x else if l j && decide (j < ops.size) then val j else dv j) ds 0 a).put o.dst v ∧ (J (fun j => j == i || l j) (fun j => if j = i then v else val j) w')) (putD (fun j => if j = i then x else if l j && decide (j < ops.size) then val j else dv j) ds 0 a) W := by
      unfold wpOpIn
      simp only [hi]
      rw [if_pos h1.1]
      exact h1.2
    rw [hsplit] at h2
    have h3 := wpOpIn_strip (R := fun v w' => J (fun j => j == i || l j) (fun j => if j = i then v else val j) w') hro hi (fun cs b => c2 i o cs b hi) hQ (fun j => if j = i then x else if l j && decide (j < ops.size) then val j else dv j) ((List.range ops.size).filter fun j => !(j == i || l j))
      (putL ops val ((List.range ops.size).filter l) a) ?_ h2
    · refine wpOpIn_mono (fun a' w' h => ?_) h3
      obtain ⟨v, rfl, hJ⟩ := h
      refine ⟨fun j => if j = i then v else val j, ?_, hJ⟩
      have e1 : putL ops val ((List.range ops.size).filter l) a = putL ops (fun j => if j = i then v else val j) ((List.range ops.size).filter l) a := putL_congr _ _ (fun k hk => by
          have : k ≠ i := fun h => by
            have := (List.mem_filter.1 hk).2
            rw [h, hli] at this
            cases this
          simp [this])
      rw [putL_perm hdist _ ((filter_add hli _ List.nodup_range (List.mem_range.2 hlt)).trans (List.perm_append_singleton i _).symm) a, putL_append, ← e1]
      simp [putL, dstAt, hi]
    · intro k hk
      obtain ⟨hk1, hk2⟩ := List.mem_filter.1 hk
      have hk1 := List.mem_range.1 hk1
      have e : k ≠ i := fun h => by subst h; simp at hk2
      rcases c4 k i _ o e (Array.getElem?_eq_getElem hk1) hi with ⟨e', he', hb', rfl⟩ | h
      · have := hdep e' he' hb'
        simp [this] at hk2
      · exact ⟨_, Array.getElem?_eq_getElem hk1, h⟩
  · rintro l _ W hall ⟨val, rfl, hV⟩
    have : (List.range ops.size).filter l = List.range ops.size := List.filter_eq_self.2 fun i hi => hall i (List.mem_range.1 hi)
    rw [this, ← hcan]
    exact hfin l val W hall hV


theorem wpIn_region_jointL {id : Nat} {a : Act} {w : World} (ds : List (Option Tmp)) (J : (Nat → Bool) → (Nat → Value) → World → Prop) (hro : F.round = none) (hm : P.follows .mixedOrders = true)
    (hchk : chkH ops = true) (hds : ops.toList.map (·.dst) = ds) (hQ : ∀ c (d : Option Tmp) (v : Value) a w, Q (.panic c) (a.put d v) w → Q (.panic c) a w)
    (h0 : J (fun _ => false) (fun _ => undef) w.drew)
    (hop : opsAll (fun i o => ∀ (val' : Nat → Value) (l : Nat → Bool) (val : Nat → Value) W, l i = false → depAll (fun j => l j = true ∧ val' j = val j) o.after.toList → J l val W →
      ∀ K : Act → World → Prop, (∀ v w', J (fun j => j == i || l j) (fun j => if j = i then v else val j) w' → K ((putD val' ds 0 a).put o.dst v) w') → Region.wanted o (yielded ops (putD val' ds 0 a).tmps) = true ∧ o.wpIn F n P (putD val' ds 0 a) W K Q) ops.toList 0)
    (hfin : ∀ (l : Nat → Bool) (val : Nat → Value) W, (∀ i, i < ops.size → l i = true) → J l val W → Q .normal (putD val ds 0 a) W) : (Code.region id ops true).wpIn F n P Q a w := by
  refine wpIn_region_joint ds (fun _ => undef) J hro hm hchk hds hQ h0 (fun i o hi l val val' W hli hv hd hJ K hK => ?_) hfin
  have hgo := opsAll_get _ _ hop i o (by rw [Array.getElem?_toList]; exact hi)
  simp only [Nat.zero_add] at hgo
  exact hgo val' l val W hli (depAll_of _ (fun e he hb => hd e (by simpa using he) hb)) hJ K hK

/-- Each operation hands back a value that is known ahead; the law hangs on what has been done. -/
theorem wpIn_region_valsL {id : Nat} {a : Act} {w : World} (ds : List (Option Tmp)) (vs : Nat → Value) (C : (Nat → Bool) → World → Prop) (hro : F.round = none) (hm : P.follows .mixedOrders = true)
    (hchk : chkH ops = true) (hds : ops.toList.map (·.dst) = ds) (hQ : ∀ c (d : Option Tmp) (v : Value) a w, Q (.panic c) (a.put d v) w → Q (.panic c) a w)
    (h0 : C (fun _ => false) w.drew)
    (hop : opsAll (fun i o => ∀ x (l : Nat → Bool) W, l i = false → depAll (fun j => l j = true) o.after.toList → C l W →
      ∀ K : Act → World → Prop, (∀ w', C (fun j => j == i || l j) w' → K ((putD (fun j => if j = i then x else vs j) ds 0 a).put o.dst (vs i)) w') → Region.wanted o (yielded ops (putD (fun j => if j = i then x else vs j) ds 0 a).tmps) = true ∧ o.wpIn F n P (putD (fun j => if j = i then x else vs j) ds 0 a) W K Q) ops.toList 0)
    (hfin : ∀ l W, (∀ i, i < ops.size → l i = true) → C l W → Q .normal (putD vs ds 0 a) W) : (Code.region id ops true).wpIn F n P Q a w := by
  refine wpIn_region_joint ds vs (fun l val W => (∀ i, i < ops.size → l i = true → val i = vs i) ∧ C l W) hro hm hchk hds hQ ⟨(fun _ _ h => by cases h), h0⟩ (fun i o hi l val val' W hli hv hd hJ K hK => ?_) (fun l val W hall hJ => ?_)
  · have hlt : i < ops.size := (Array.getElem?_eq_some_iff.1 hi).1
    have hgo := opsAll_get _ _ hop i o (by rw [Array.getElem?_toList]; exact hi)
    simp only [Nat.zero_add] at hgo
    have hval : val' = fun j => if j = i then val' i else vs j := by
      funext j
      by_cases e : j = i
      · subst e; simp
      · simp only [e, if_false]
        rcases hv j e with ⟨h1, h2, h3⟩ | h
        · exact h3.trans (hJ.1 j h1 h2)
        · exact h
    have := hgo (val' i) l W hli (depAll_of _ (fun e he hb => (hd e (by simpa using he) hb).1)) hJ.2 K
    rw [← hval] at this
    refine this (fun w' hC' => hK _ _ ⟨fun j hj hlj => ?_, hC'⟩)
    by_cases e : j = i
    · subst e; simp
    · simp only [e, if_false]
      exact hJ.1 j hj (by simpa [e] using hlj)
  · have key : ∀ (m : List (Option Tmp)) (k : Nat) (b : Act), k + m.length ≤ ops.size → putD val m k b = putD vs m k b := by
      intro m
      induction m with
      | nil => intro k b _; rfl
      | cons d r ih =>
        intro k b h
        simp only [List.length_cons] at h
        simp only [putD]
        rw [hJ.1 k (by omega) (hall k (by omega)), ih (k + 1) _ (by omega)]
    rw [key ds 0 a (by rw [← hds]; simp)]
    exact hfin l W hall hJ.2
end
end Go.Proofs.YtomfnldlnoiloaaDoor
/- A region that draws its order; operations whose guard says no. -/
namespace Go.Proofs.YtomfnldlnoiloaaDoor
set_option linter.unusedVariables false
set_option linter.unusedSimpArgs false
open Go

section
variable {F : Fence} {n : Nat} {P : Program} {ops : Array Oper} {Q : Exit → Act → World → Prop}
/-- As wpIn_region_eachH; an operation whose guard says no is left out. -/
theorem wpIn_region_eachW {id : Nat} {a : Act} {w : World} (ds : List (Option Tmp)) (dv : Nat → Value) (V : Nat → Value → World → Prop) (G : Nat → World → World → Prop) (C : World → Prop) (hro : F.round = none) (hm : P.follows .mixedOrders = true)
    (hchk : chkH ops = true) (hds : ops.toList.map (·.dst) = ds) (hQ : ∀ c (d : Option Tmp) (v : Value) a w, Q (.panic c) (a.put d v) w → Q (.panic c) a w)
    (h0 : C w.drew) (hC : ∀ j W W', C W → G j W W' → C W') (hstab : ∀ i j v W W', i ≠ j → C W → V i v W → G j W W' → V i v W')
    (hop : ∀ i o, ops[i]? = some o → ∀ (val : Nat → Value) W, C W → (∀ j, j ≠ i → val j = dv j ∨ V j (val j) W) → (∀ e ∈ o.after, Region.binds .any e = true → V e.on (val e.on) W) →
      ∀ K : Act → World → Prop, (∀ v w', G i W w' → V i v w' → K ((putD val ds 0 a).put o.dst v) w') → if Region.wanted o (yielded ops (putD val ds 0 a).tmps) then o.wpIn F n P (putD val ds 0 a) W K Q else (∀ f, o.about P W (putD val ds 0 a).eval = some f → F.fn f) ∧ K ((putD val ds 0 a).put o.dst undef) W)
    (hfin : ∀ (val : Nat → Value) W, C W → (∀ i, i < ops.size → V i (val i) W) → Q .normal (putD val ds 0 a) W) : (Code.region id ops true).wpIn F n P Q a w := by
  obtain ⟨c1, c2, c4⟩ := chkH_spec hchk
  have hdist : distinctD ops := by
    intro i j d hne hi hj
    unfold dstAt at hi hj
    cases hoi : ops[i]? with
    | none => rw [hoi] at hi; cases hi
    | some oi =>
      cases hoj : ops[j]? with
      | none => rw [hoj] at hj; cases hj
      | some oj =>
        rw [hoi] at hi
        rw [hoj] at hj
        simp only [Option.bind_some] at hi hj
        have key : ∀ i j (oi oj : Oper), i ≠ j → ops[i]? = some oi → ops[j]? = some oj → oi.dst = some d → oj.dst = some d → (∃ e ∈ oj.after, Region.binds .any e = true ∧ e.on = i) := fun i j oi oj hne hoi hoj hi hj => by
          rcases c4 i j oi oj hne hoi hoj with h | h
          · exact h
          · exact absurd hj ((aside_spec h).2 d hi)
        obtain ⟨e, he, hb, rfl⟩ := key i j oi oj hne hoi hoj hi hj
        obtain ⟨e', he', hb', rfl⟩ := key _ _ oj oi (Ne.symm hne) hoj hoi hj hi
        have lt : ∀ i (o : Oper) e, ops[i]? = some o → e ∈ o.after → Region.binds .any e = true → e.on < i := fun i o e ho he hb => by
          have h1 := List.all_eq_true.1 c1 i (List.mem_range.2 (Array.getElem?_eq_some_iff.1 ho).1)
          simp only [ho] at h1
          have h2 := Array.all_eq_true'.1 h1 e he
          rw [hb] at h2
          simpa using h2
        have := lt _ _ e hoj he hb
        have := lt _ _ e' hoi he' hb'
        omega
  have hcan : ∀ val, putD val ds 0 a = putL ops val (List.range ops.size) a := fun val => by
    rw [List.range_eq_range', ← putD_eq, ← List.range_eq_range', ← hds]
    congr 1
    apply List.ext_getElem?
    intro i
    rw [List.getElem?_map, List.getElem?_map, Array.getElem?_toList]
    by_cases hlt : i < ops.size
    · rw [List.getElem?_range hlt]; simp [dstAt, hlt]
    · rw [Array.getElem?_eq_none (by omega), List.getElem?_eq_none (by simp; omega)]; rfl
  refine wpIn_region_inv (fun l a' W => ∃ val, a' = putL ops val ((List.range ops.size).filter l) a ∧ C W ∧ ∀ i, i < ops.size → l i = true → V i (val i) W) hm c1 ⟨fun _ => undef, ?_, h0, fun _ _ h => by cases h⟩ ?_ ?_
  · rw [List.filter_eq_nil_iff.2 (fun _ _ => by simp)]; rfl
  · rintro l _ W i o hi hli hdep ⟨val, rfl, hCW, hV⟩
    have hlt : i < ops.size := (Array.getElem?_eq_some_iff.1 hi).1
    have lt : ∀ e ∈ o.after, e.on < ops.size ∨ ops[e.on]? = none := fun e _ => by
      rcases Nat.lt_or_ge e.on ops.size with h | h
      · exact .inl h
      · exact .inr (Array.getElem?_eq_none h)
    have hown : ∃ x : Value, (putL ops val ((List.range ops.size).filter l) a).put o.dst x = putL ops val ((List.range ops.size).filter l) a := by
      generalize putL ops val ((List.range ops.size).filter l) a = b
      cases o.dst with
      | none => exact ⟨undef, rfl⟩
      | some d =>
        by_cases hd : d < b.tmps.size
        · refine ⟨b.tmps[d], ?_⟩
          simp [Act.put, Array.setIfInBounds, hd]
        · exact ⟨undef, by simp [Act.put, Array.setIfInBounds, hd]⟩
    obtain ⟨x, hx⟩ := hown
    have hdi : dstAt ops i = o.dst := by simp [dstAt, hi]
    have hval : ∀ k ∈ (List.range ops.size).filter l, val k = (fun j => if j = i then x else if l j && decide (j < ops.size) then val j else dv j) k := fun k hk => by
      have : k ≠ i := fun h => by
        have := (List.mem_filter.1 hk).2
        rw [h, hli] at this
        cases this
      have h2 := List.mem_filter.1 hk
      have h3 := List.mem_range.1 h2.1
      simp [this, h2.2, h3]
    have hl2 : ((List.range ops.size).filter fun j => !l j) = (List.range ops.size).filter fun j => j == i || !(j == i || l j) := List.filter_congr fun j _ => by
      by_cases e : j = i
      · subst e; simp [hli]
      · have e' : (j == i) = false := by simpa using e
        simp only [e', Bool.false_or]
    have hsplit : putD (fun j => if j = i then x else if l j && decide (j < ops.size) then val j else dv j) ds 0 a = putL ops (fun j => if j = i then x else if l j && decide (j < ops.size) then val j else dv j) ((List.range ops.size).filter fun j => !(j == i || l j)) (putL ops val ((List.range ops.size).filter l) a) := by
      rw [hcan]
      rw [putL_perm hdist _ (List.filter_append_perm l _).symm a, putL_append, ← putL_congr _ _ hval, hl2]
      rw [putL_perm hdist _ (filter_add (l := fun j => !(j == i || l j)) (by simp) _ List.nodup_range (List.mem_range.2 hlt))]
      simp only [putL, if_true, hdi, hx]
    have h1 := hop i o hi (fun j => if j = i then x else if l j && decide (j < ops.size) then val j else dv j) W hCW (fun j hj => by
      simp only [hj, if_false]
      by_cases hlj : l j = true ∧ j < ops.size
      · right
        simp only [hlj.1, hlj.2, decide_true, Bool.and_self, if_true]
        exact hV j hlj.2 hlj.1
      · left
        rw [if_neg (by simpa using hlj)]) (fun e he hb => by
      have h1 := List.all_eq_true.1 c1 i (List.mem_range.2 hlt)
      simp only [hi] at h1
      have h2 := Array.all_eq_true'.1 h1 e he
      rw [hb] at h2
      have hlt' : e.on < i := by simpa using h2
      have hne : e.on ≠ i := by omega
      have hlt2 : e.on < ops.size := by omega
      simp only [hne, if_false, hdep e he hb, hlt2, decide_true, Bool.and_self, if_true]
      exact hV _ hlt2 (hdep e he hb))
      (fun a' w' => ∃ v, a' = (putD (fun j => if j = i then x else if l j && decide (j < ops.size) then val j else dv j) ds 0 a).put o.dst v ∧ (G i W w' ∧ V i v w')) (fun v w' hG hv => ⟨v, rfl, hG, hv⟩)
    have h2 : wpOpIn F n P ops Q i (fun a' w' => ∃ v, a' = (putD (fun j => if j = i then x else if l j && decide (j < ops.size) then val j else dv j) ds 0 a).put o.dst v ∧ (G i W w' ∧ V i v w')) (putD (fun j => if j = i then x else if l j && decide (j < ops.size) then val j else dv j) ds 0 a) W := by
      unfold wpOpIn
      simp only [hi]
      exact h1
    rw [hsplit] at h2
    have h3 := wpOpIn_strip (R := fun v w' => G i W w' ∧ V i v w') hro hi (fun cs b => c2 i o cs b hi) hQ (fun j => if j = i then x else if l j && decide (j < ops.size) then val j else dv j) ((List.range ops.size).filter fun j => !(j == i || l j))
      (putL ops val ((List.range ops.size).filter l) a) ?_ h2
    · refine wpOpIn_mono (fun a' w' h => ?_) h3
      obtain ⟨v, rfl, hG, hv⟩ := h
      refine ⟨fun j => if j = i then v else val j, ?_, hC _ _ _ hCW hG, fun j hj hlj => ?_⟩
      · have e1 : putL ops val ((List.range ops.size).filter l) a = putL ops (fun j => if j = i then v else val j) ((List.range ops.size).filter l) a := putL_congr _ _ (fun k hk => by
          have : k ≠ i := fun h => by
            have := (List.mem_filter.1 hk).2
            rw [h, hli] at this
            cases this
          simp [this])
        rw [putL_perm hdist _ ((filter_add hli _ List.nodup_range (List.mem_range.2 hlt)).trans (List.perm_append_singleton i _).symm) a, putL_append, ← e1]
        simp [putL, dstAt, hi]
      · by_cases e : j = i
        · subst e; simpa using hv
        · simp only [e, if_false]
          refine hstab j i _ W w' e hCW (hV j hj ?_) hG
          simpa [e] using hlj
    · intro k hk
      obtain ⟨hk1, hk2⟩ := List.mem_filter.1 hk
      have hk1 := List.mem_range.1 hk1
      have e : k ≠ i := fun h => by subst h; simp at hk2
      rcases c4 k i _ o e (Array.getElem?_eq_getElem hk1) hi with ⟨e', he', hb', rfl⟩ | h
      · have := hdep e' he' hb'
        simp [this] at hk2
      · exact ⟨_, Array.getElem?_eq_getElem hk1, h⟩
  · rintro l _ W hall ⟨val, rfl, hCW, hV⟩
    have : (List.range ops.size).filter l = List.range ops.size := List.filter_eq_self.2 fun i hi => hall i (List.mem_range.1 hi)
    rw [this, ← hcan]
    exact hfin val W hCW (fun i hi => hV i hi (hall i hi))

/-- The values are known ahead; an operation whose guard says no yields nothing. -/
theorem wpIn_region_valsW {id : Nat} {a : Act} {w : World} (ds : List (Option Tmp)) (vs : Nat → Value) (C : World → Prop) (hro : F.round = none) (hm : P.follows .mixedOrders = true)
    (hchk : chkH ops = true) (hds : ops.toList.map (·.dst) = ds) (hQ : ∀ c (d : Option Tmp) (v : Value) a w, Q (.panic c) (a.put d v) w → Q (.panic c) a w)
    (h0 : C w.drew) (hop : opsAll (fun i o => ∀ x W, C W → ∀ K : Act → World → Prop, (∀ w', C w' → K ((putD (fun j => if j = i then x else vs j) ds 0 a).put o.dst (vs i)) w') → if Region.wanted o (yielded ops (putD (fun j => if j = i then x else vs j) ds 0 a).tmps) then o.wpIn F n P (putD (fun j => if j = i then x else vs j) ds 0 a) W K Q else (∀ f, o.about P W (putD (fun j => if j = i then x else vs j) ds 0 a).eval = some f → F.fn f) ∧ K ((putD (fun j => if j = i then x else vs j) ds 0 a).put o.dst undef) W) ops.toList 0)
    (hfin : ∀ W, C W → Q .normal (putD vs ds 0 a) W) : (Code.region id ops true).wpIn F n P Q a w := by
  refine wpIn_region_eachW ds vs (fun i v _ => v = vs i) (fun _ _ W' => C W') C hro hm hchk hds hQ h0 (fun _ _ _ _ h => h) (fun _ _ _ _ _ _ _ h _ => h) (fun i o hi val W hCW hd _ K hK => ?_) (fun val W hCW hV => ?_)
  · have hv : val = fun j => if j = i then val i else vs j := by
      funext j
      by_cases e : j = i
      · subst e; simp
      · simp only [e, if_false]
        rcases hd j e with h | h <;> exact h
    have := opsAll_get _ _ hop i o (by rw [Array.getElem?_toList]; exact hi) (val i) W hCW K
    simp only [Nat.zero_add] at this
    rw [← hv] at this
    exact this (fun w' hC' => hK _ _ hC' rfl)
  · have key : ∀ (l : List (Option Tmp)) (k : Nat) (b : Act), k + l.length ≤ ops.size → putD val l k b = putD vs l k b := by
      intro l
      induction l with
      | nil => intro k b _; rfl
      | cons d r ih =>
        intro k b h
        simp only [List.length_cons] at h
        simp only [putD]
        rw [hV k (by omega), ih (k + 1) _ (by omega)]
    rw [key ds 0 a (by rw [← hds]; simp)]
    exact hfin W hCW


/-! The frame as a look-up: what a region's operations see. -/
def lookV : List (Option Tmp) → Nat → (Nat → Value) → (Tmp → Value) → Tmp → Value
  | [], _, _, e, t => e t
  | none :: r, k, f, e, t => lookV r (k + 1) f e t
  | some d :: r, k, f, e, t => if d = t then f k else lookV r (k + 1) f e t
def envV (ds : List (Option Tmp)) (f : Nat → Value) (a : Act) : Operand → Value
  | .tmp t => lookV ds 0 f (fun t => a.tmps.getD t undef) t
  | .const v => v
  | .global g => .pointer (some ⟨g, 0, none⟩)
  | .func f => .func (.func f) #[] #[]
def nodupB : List Nat → Bool
  | [] => true
  | x :: r => !(r.any fun y => y == x) && nodupB r
def okD (ds : List (Option Tmp)) (n : Nat) : Bool := nodupB (ds.filterMap id) && ds.all fun d => match d with
  | some d => decide (d < n)
  | none => true
theorem nodupB_spec : ∀ {l : List Nat}, nodupB l = true → l.Nodup
  | [], _ => List.nodup_nil
  | x :: r, h => by
    simp only [nodupB, Bool.and_eq_true, Bool.not_eq_true', List.any_eq_false, beq_iff_eq] at h
    exact List.nodup_cons.2 ⟨fun hx => h.1 x hx rfl, nodupB_spec h.2⟩
theorem okD_spec {ds : List (Option Tmp)} {n : Nat} (h : okD ds n = true) : (ds.filterMap id).Nodup ∧ ∀ d, some d ∈ ds → d < n := by
  simp only [okD, Bool.and_eq_true, List.all_eq_true] at h
  exact ⟨nodupB_spec h.1, fun d hd => by simpa using h.2 _ hd⟩
theorem put_get {a : Act} {d t : Tmp} {v : Value} (h : d < a.tmps.size) : (a.put (some d) v).tmps.getD t undef = if d = t then v else a.tmps.getD t undef := by
  simp only [Act.put, Array.getD_eq_getD_getElem?, Array.getElem?_setIfInBounds]
  by_cases e : d = t
  · subst e; simp [h]
  · simp [e]
theorem lookV_congr {f : Nat → Value} {e e' : Tmp → Value} {t : Tmp} (h : e t = e' t) : ∀ (ds : List (Option Tmp)) (k : Nat), lookV ds k f e t = lookV ds k f e' t
  | [], _ => h
  | none :: r, k => lookV_congr h r (k + 1)
  | some d :: r, k => by
    simp only [lookV]
    split
    · rfl
    · exact lookV_congr h r (k + 1)
theorem lookV_not {f : Nat → Value} {e : Tmp → Value} {t : Tmp} : ∀ (ds : List (Option Tmp)) (k : Nat), some t ∉ ds → lookV ds k f e t = e t
  | [], _, _ => rfl
  | none :: r, k, h => lookV_not r (k + 1) (fun h' => h (by simp [h']))
  | some d :: r, k, h => by
    simp only [lookV]
    rw [if_neg (fun e => h (by simp [e]))]
    exact lookV_not r (k + 1) (fun h' => h (by simp [h']))
theorem putD_get (f : Nat → Value) (t : Tmp) : ∀ (ds : List (Option Tmp)) (k : Nat) (a : Act), (ds.filterMap id).Nodup → (∀ d, some d ∈ ds → d < a.tmps.size) → (putD f ds k a).tmps.size = a.tmps.size ∧ (putD f ds k a).tmps.getD t undef = lookV ds k f (fun t => a.tmps.getD t undef) t
  | [], _, _, _, _ => ⟨rfl, rfl⟩
  | none :: r, k, a, h1, h2 => putD_get f t r (k + 1) a (by simpa using h1) (fun d hd => h2 d (by simp [hd]))
  | some d :: r, k, a, h1, h2 => by
    have hd := h2 d (by simp)
    simp only [List.filterMap_cons, id_eq, List.nodup_cons] at h1
    obtain ⟨h3, h4⟩ := h1
    have hs : (a.put (some d) (f k)).tmps.size = a.tmps.size := by simp [Act.put]
    obtain ⟨e1, e2⟩ := putD_get f t r (k + 1) (a.put (some d) (f k)) h4 (fun d' hd' => by rw [hs]; exact h2 d' (by simp [hd']))
    refine ⟨e1.trans hs, ?_⟩
    simp only [putD, lookV]
    rw [e2]
    by_cases e : d = t
    · subst e
      rw [if_pos rfl, lookV_not r (k + 1) (fun hm => h3 (List.mem_filterMap.2 ⟨_, hm, rfl⟩)), put_get hd, if_pos rfl]
    · rw [if_neg e]
      exact lookV_congr (by rw [put_get hd, if_neg e]) r (k + 1)
theorem lookV_at (f : Nat → Value) (e : Tmp → Value) (d : Tmp) : ∀ (ds : List (Option Tmp)) (k j : Nat), (ds.filterMap id).Nodup → ds[j]? = some (some d) → lookV ds k f e d = f (k + j)
  | [], _, _, _, h => by simp at h
  | none :: r, k, 0, _, h => by simp at h
  | none :: r, k, j + 1, h1, h => by
    have := lookV_at f e d r (k + 1) j (by simpa using h1) (by simpa using h)
    simp only [lookV]
    rw [this, show k + 1 + j = k + (j + 1) by omega]
  | some d' :: r, k, 0, h1, h => by
    simp at h
    subst h
    simp [lookV]
  | some d' :: r, k, j + 1, h1, h => by
    simp only [List.filterMap_cons, id_eq, List.nodup_cons] at h1
    have hm : some d ∈ r := List.mem_of_getElem? (by simpa using h)
    have hne : d' ≠ d := fun e => h1.1 (e ▸ List.mem_filterMap.2 ⟨_, hm, rfl⟩)
    have := lookV_at f e d r (k + 1) j h1.2 (by simpa using h)
    simp only [lookV]
    rw [if_neg hne, this, show k + 1 + j = k + (j + 1) by omega]
theorem eval_putD {f : Nat → Value} {ds : List (Option Tmp)} {a : Act} (h : okD ds a.tmps.size = true) : (putD f ds 0 a).eval = envV ds f a := by
  obtain ⟨h1, h2⟩ := okD_spec h
  funext x
  cases x with
  | tmp t => exact (putD_get f t ds 0 a h1 h2).2
  | const v => rfl
  | global g => rfl
  | func g => rfl
def boolV : Value → Option Bool
  | .bool b => some b
  | _ => none
def yV (ds : List (Option Tmp)) (f : Nat → Value) (j : Nat) : Option Bool := match ds[j]? with
  | some (some _) => boolV (f j)
  | _ => none
def wantV (ds : List (Option Tmp)) (f : Nat → Value) (o : Oper) : Bool := match o.guard with
  | none => true
  | some (j, c) => yV ds f j == some c
theorem yielded_putD {f : Nat → Value} {ds : List (Option Tmp)} {a : Act} (hds : ops.toList.map (·.dst) = ds) (h : okD ds a.tmps.size = true) (j : Nat) : yielded ops (putD f ds 0 a).tmps j = yV ds f j := by
  obtain ⟨h1, h2⟩ := okD_spec h
  have hd : ds[j]? = (ops[j]?).map (·.dst) := by rw [← hds, List.getElem?_map, Array.getElem?_toList]
  unfold yielded yV
  rw [hd]
  cases ho : ops[j]? with
  | none => rfl
  | some o =>
    simp only [Option.map_some, Option.bind_some]
    rw [ho] at hd
    simp only [Option.map_some] at hd
    cases hdst : o.dst with
    | none => rfl
    | some d =>
      rw [hdst] at hd
      have hlt := h2 d (List.mem_of_getElem? hd)
      obtain ⟨e1, e2⟩ := putD_get f d ds 0 a h1 h2
      rw [lookV_at f _ d ds 0 j h1 hd, Nat.zero_add, Array.getD_eq_getD_getElem?] at e2
      simp only [Option.bind_some]
      have hlt2 : d < (putD f ds 0 a).tmps.size := by rw [e1]; exact hlt
      rw [Array.getElem?_eq_getElem hlt2] at e2 ⊢
      simp only [Option.getD_some] at e2
      rw [e2]
      cases f j <;> rfl
theorem want_putD {f : Nat → Value} {ds : List (Option Tmp)} {a : Act} (hds : ops.toList.map (·.dst) = ds) (h : okD ds a.tmps.size = true) (o : Oper) : Region.wanted o (yielded ops (putD f ds 0 a).tmps) = wantV ds f o := by
  unfold Region.wanted wantV
  cases o.guard with
  | none => rfl
  | some g => simp only [yielded_putD hds h]
/-- **The values are known ahead; each operation sees the frame by look-up.** -/
theorem wpIn_region_valsE {id : Nat} {a : Act} {w : World} (ds : List (Option Tmp)) (vs : Nat → Value) (C : World → Prop) (hro : F.round = none) (hm : P.follows .mixedOrders = true) (hfn : ∀ f, F.fn f)
    (hchk : chkH ops = true) (hds : ops.toList.map (·.dst) = ds) (hok : okD ds a.tmps.size = true) (hQ : ∀ c (d : Option Tmp) (v : Value) a w, Q (.panic c) (a.put d v) w → Q (.panic c) a w)
    (h0 : C w.drew) (hop : opsAll (fun i o => ∀ x W, C W → if wantV ds (fun j => if j = i then x else vs j) o = true then (∀ b : Act, b.eval = envV ds (fun j => if j = i then x else vs j) a → ∀ K : Act → World → Prop, (∀ w', C w' → K (b.put o.dst (vs i)) w') → o.wpIn F n P b W K Q) else vs i = undef) ops.toList 0)
    (hfin : ∀ W, C W → Q .normal (putD vs ds 0 a) W) : (Code.region id ops true).wpIn F n P Q a w := by
  refine wpIn_region_valsW ds vs C hro hm hchk hds hQ h0 ?_ hfin
  have key : ∀ (l : List Oper) (k : Nat), opsAll (fun i o => ∀ x W, C W → if wantV ds (fun j => if j = i then x else vs j) o = true then (∀ b : Act, b.eval = envV ds (fun j => if j = i then x else vs j) a → ∀ K : Act → World → Prop, (∀ w', C w' → K (b.put o.dst (vs i)) w') → o.wpIn F n P b W K Q) else vs i = undef) l k →
      opsAll (fun i o => ∀ x W, C W → ∀ K : Act → World → Prop, (∀ w', C w' → K ((putD (fun j => if j = i then x else vs j) ds 0 a).put o.dst (vs i)) w') → if Region.wanted o (yielded ops (putD (fun j => if j = i then x else vs j) ds 0 a).tmps) then o.wpIn F n P (putD (fun j => if j = i then x else vs j) ds 0 a) W K Q else (∀ f, o.about P W (putD (fun j => if j = i then x else vs j) ds 0 a).eval = some f → F.fn f) ∧ K ((putD (fun j => if j = i then x else vs j) ds 0 a).put o.dst undef) W) l k := by
    intro l
    induction l with
    | nil => intro k _; trivial
    | cons o l ih =>
      intro k h
      refine ⟨fun x W hC K hK => ?_, ih (k + 1) h.2⟩
      have h1 := h.1 x W hC
      rw [want_putD hds hok]
      by_cases hw : wantV ds (fun j => if j = k then x else vs j) o = true
      · rw [if_pos hw] at h1 ⊢
        exact h1 _ (eval_putD hok) K hK
      · rw [if_neg hw] at h1 ⊢
        have := hK W hC
        rw [h1] at this
        exact ⟨fun f _ => hfn f, this⟩
  exact key _ _ hop
theorem e_yes {c : Bool} {p q : Prop} (hc : c = true) (hp : p) : if c = true then p else q := by rw [if_pos hc]; exact hp
theorem e_no {c : Bool} {p q : Prop} (hc : c = false) (hq : q) : if c = true then p else q := by rw [if_neg (by rw [hc]; decide)]; exact hq
theorem opE_li {o : Oper} {b : Act} {ev : Operand → Value} {w : World} {K : Act → World → Prop} (hro : F.round = none) (hb : b.eval = ev) (h : o.about P w ev = none ∧ liUpon w (fun v => K (b.put o.dst v) w) ((execOp ev o).run P w)) : o.wpIn F n P b w K Q := op_li hro (by rw [hb]; exact h)
theorem opE_call {o : Oper} {b : Act} {ev : Operand → Value} {w : World} {K : Act → World → Prop} (hro : F.round = none) (hb : b.eval = ev) (hfn : ∀ f, F.fn f) (hdep : F.depth.isSome = true → 1 ≤ n) (f : FuncId) (args : Array Value)
    (hr : (execOp ev o).run P w = .ok (.enter f args) w) (h : CallsIn F (n - 1) P f args w fun e w' => ∃ v, e = .returned v ∧ K (b.put o.dst v) w') : o.wpIn F n P b w K Q := by
  unfold Oper.wpIn
  refine ⟨fun f _ => hfn f, ?_⟩
  rw [hro, Oper.semAt_none, hb, hr]
  refine ⟨hdep, CallsIn.mono h fun e w' he => ?_⟩
  obtain ⟨v, rfl, hk⟩ := he
  exact hk

/-! The same, the frame ahead of the region known at a few slots only. -/
def lookB : List (Tmp × Value) → (Tmp → Value) → Tmp → Value
  | [], e, t => e t
  | p :: r, e, t => if p.1 = t then p.2 else lookB r e t
def baseOk (a : Act) : List (Tmp × Value) → Prop
  | [] => True
  | p :: r => a.tmps.getD p.1 undef = p.2 ∧ baseOk a r
theorem lookB_eq {a : Act} : ∀ {l : List (Tmp × Value)}, baseOk a l → lookB l (fun t => a.tmps.getD t undef) = fun t => a.tmps.getD t undef
  | [], _ => rfl
  | p :: r, h => by
    funext t
    simp only [lookB]
    split
    · rename_i e
      rw [← e]; exact h.1.symm
    · rw [lookB_eq h.2]
def envB (ds : List (Option Tmp)) (f : Nat → Value) (l : List (Tmp × Value)) (e : Tmp → Value) : Operand → Value
  | .tmp t => lookV ds 0 f (lookB l e) t
  | .const v => v
  | .global g => .pointer (some ⟨g, 0, none⟩)
  | .func f => .func (.func f) #[] #[]
theorem envB_eq {ds : List (Option Tmp)} {f : Nat → Value} {l : List (Tmp × Value)} {a : Act} (h : baseOk a l) : envV ds f a = envB ds f l (fun t => a.tmps.getD t undef) := by
  funext x
  cases x with
  | tmp t => simp only [envV, envB, lookB_eq h]
  | const v => rfl
  | global g => rfl
  | func g => rfl
theorem opsAll_mono {f g : Nat → Oper → Prop} (h : ∀ i o, f i o → g i o) : ∀ (l : List Oper) (k : Nat), opsAll f l k → opsAll g l k
  | [], _, _ => trivial
  | o :: r, k, hh => ⟨h k o hh.1, opsAll_mono h r (k + 1) hh.2⟩
/-- **The values are known ahead; each operation sees the frame by look-up, and of the frame ahead of the region the named slots.** -/
theorem wpIn_region_valsB {id : Nat} {a : Act} {w : World} (ds : List (Option Tmp)) (vs : Nat → Value) (base : List (Tmp × Value)) (C : World → Prop) (hro : F.round = none) (hm : P.follows .mixedOrders = true) (hfn : ∀ f, F.fn f)
    (hchk : chkH ops = true) (hds : ops.toList.map (·.dst) = ds) (hok : okD ds a.tmps.size = true) (hbase : baseOk a base) (hQ : ∀ c (d : Option Tmp) (v : Value) a w, Q (.panic c) (a.put d v) w → Q (.panic c) a w)
    (h0 : C w.drew) (hop : opsAll (fun i o => ∀ x W, C W → if wantV ds (fun j => if j = i then x else vs j) o = true then (∀ (b : Act) (e : Tmp → Value), b.eval = envB ds (fun j => if j = i then x else vs j) base e → ∀ K : Act → World → Prop, (∀ w', C w' → K (b.put o.dst (vs i)) w') → o.wpIn F n P b W K Q) else vs i = undef) ops.toList 0)
    (hfin : ∀ W, C W → Q .normal (putD vs ds 0 a) W) : (Code.region id ops true).wpIn F n P Q a w := by
  refine wpIn_region_valsE ds vs C hro hm hfn hchk hds hok hQ h0 (opsAll_mono (fun i o h x W hC => ?_) _ _ hop) hfin
  have h1 := h x W hC
  by_cases hw : wantV ds (fun j => if j = i then x else vs j) o = true
  · rw [if_pos hw] at h1 ⊢
    exact fun b hb => h1 b _ (hb.trans (envB_eq hbase))
  · rw [if_neg hw] at h1 ⊢
    exact h1
end
end Go.Proofs.YtomfnldlnoiloaaDoor
