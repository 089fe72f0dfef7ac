/- A region that draws its order, an operation at a time: what each leaves, whatever the order. -/
import Derived.Test.YtilmlgngnbokfaaPi
namespace Go.Proofs.Ytilmlgngnbokfaa
set_option linter.unusedVariables false
set_option linter.unusedSimpArgs false
open Go

section
variable {F : Fence} {n : Nat} {P : Program} {ops : Array Oper} {Q : Exit → Act → World → Prop}

/-- x's slot is none that y looks at or writes. -/
def aside (ops : Array Oper) (x y : Oper) : Bool := match x.dst with
  | some d => !(y.looksAt ops).contains d && y.dst != some d
  | none => true
theorem aside_spec {x y : Oper} (h : aside ops x y = true) : (∀ d, x.dst = some d → d ∉ y.looksAt ops) ∧ (∀ d, x.dst = some d → y.dst ≠ some d) := by
  refine ⟨fun d hd => ?_, fun d hd => ?_⟩ <;> simp [aside, hd] at h
  · exact h.1
  · exact h.2

theorem wpOpIn_aside {j : Nat} {oi oj : Oper} {v : Value} (hro : F.round = none) (hj : ops[j]? = some oj) (hap : aside ops oi oj = true)
    (hsj : ∀ cs b, oj.op ≠ .select cs b) (hQ : ∀ c a w, Q (.panic c) (a.put oi.dst v) w → Q (.panic c) a w) {K : Act → World → Prop} {a : Act} {w : World}
    (h : wpOpIn F n P ops Q j K (a.put oi.dst v) w) : wpOpIn F n P ops Q j (fun a' w' => (∃ (u : Value) (ds : List Deferred), a' = ({ a with defers := ds } : Act).put oj.dst u) ∧ K (a'.put oi.dst v) w') a w := by
  obtain ⟨h1, h2⟩ := aside_spec hap
  unfold Go.wpOpIn at *
  simp only [hj] at *
  rw [wanted_put oj a oi.dst v h1, about_put oj w a oi.dst v h1] at h
  split
  · rename_i hw
    simp only [hw, if_true] at h
    unfold Oper.wpIn at *
    rw [about_put oj w a oi.dst v h1] at h
    refine ⟨h.1, ?_⟩
    have h := h.2
    rw [hro, Oper.semAt_none, execOp_put oj hsj a oi.dst v h1] at h
    rw [hro, Oper.semAt_none]
    generalize (execOp a.eval oj).run P w = r at *
    cases r with
    | ok x w' =>
      cases x <;> simp only [Oper.uponIn] at h ⊢
      case value u => exact ⟨⟨u, a.defers, rfl⟩, by rw [← Act.put_comm a v u h2]; exact h⟩
      case skip => exact ⟨⟨_, a.defers, rfl⟩, by rw [← Act.put_comm a v undef h2]; exact h⟩
      case defer d =>
        refine ⟨⟨_, d :: a.defers, rfl⟩, ?_⟩
        rw [← Act.put_comm _ v undef h2, ← Act.put_defers]
        exact h
      case enter f args =>
        refine ⟨h.1, CallsIn.mono h.2 fun e w'' he => ?_⟩
        cases e with
        | returned u => exact ⟨⟨u, a.defers, rfl⟩, by rw [← Act.put_comm a v u h2]; exact he⟩
        | panicked c => exact hQ _ _ _ he
        | outgrown => exact he
      case row row args => exact ⟨h.1, RowsIn.mono h.2 fun u w'' he => ⟨⟨u, a.defers, rfl⟩, by rw [← Act.put_comm a v u h2]; exact he⟩⟩
      case round l f tmps assign body =>
        refine ⟨h.1, RoundIn.mono h.2 fun e w'' he => ?_⟩
        cases e with
        | returned u => exact ⟨⟨u, a.defers, rfl⟩, by rw [← Act.put_comm a v u h2]; exact he⟩
        | panicked c => exact hQ _ _ _ he
        | outgrown => exact he
    | halt x w' =>
      cases x <;> simp only [Oper.uponIn] at h ⊢
      case panic u => exact hQ _ _ _ h
  · rename_i hw
    simp only [hw] at h
    exact ⟨h.1, ⟨⟨undef, a.defers, rfl⟩, by rw [← Act.put_comm a v undef h2]; exact h.2⟩⟩

/-- The slots of the region's operations. -/
def dstAt (ops : Array Oper) (i : Nat) : Option Tmp := (ops[i]?).bind (·.dst)
def putL (ops : Array Oper) (val : Nat → Value) : List Nat → Act → Act
  | [], a => a
  | i :: r, a => putL ops val r (a.put (dstAt ops i) (val i))
def distinctD (ops : Array Oper) : Prop := ∀ i j d, i ≠ j → dstAt ops i = some d → dstAt ops j ≠ some d

theorem putL_append (val : Nat → Value) : ∀ (l m : List Nat) (a : Act), putL ops val (l ++ m) a = putL ops val m (putL ops val l a)
  | [], _, _ => rfl
  | i :: l, m, a => by simp only [List.cons_append, putL]; exact putL_append val l m _
theorem putL_perm (hd : distinctD ops) (val : Nat → Value) {l m : List Nat} (h : l.Perm m) : ∀ a, putL ops val l a = putL ops val m a := by
  induction h with
  | nil => intro a; rfl
  | cons x _ ih => intro a; exact ih _
  | swap x y l =>
    intro a
    simp only [putL]
    by_cases e : x = y
    · subst e; rfl
    · rw [Act.put_comm a _ _ (fun d h => hd y x d (Ne.symm e) h)]
  | trans _ _ ih1 ih2 => intro a; rw [ih1, ih2]
theorem put_inj {a : Act} {ds : List Deferred} {x y : Option Tmp} {u v z : Value} (hne : ∀ d, x = some d → y ≠ some d)
    (h : (({ a with defers := ds } : Act).put y u).put x z = (a.put x z).put y v) : ({ a with defers := ds } : Act).put y u = a.put y v := by
  rw [Act.put_comm a z v hne] at h
  cases y with
  | none =>
    cases x with
    | none => exact h
    | some d =>
      simp only [Act.put] at h ⊢
      have h1 := congrArg Act.defers h
      simp at h1
      rw [h1]
  | some d =>
    cases x with
    | none => exact h
    | some e =>
      simp only [Act.put] at h ⊢
      have h1 := congrArg Act.defers h
      have h2 := congrArg Act.tmps h
      simp only at h1 h2
      rw [h1]
      congr 1
      have hne' : e ≠ d := fun he => hne e rfl (he ▸ rfl)
      by_cases hlt : d < a.tmps.size
      · have h3 := congrArg (fun t : Array Value => t[d]?) h2
        simp only [Array.getElem?_setIfInBounds_ne hne', Array.getElem?_setIfInBounds_self, hlt, if_true, Option.some.injEq] at h3
        rw [h3]
      · simp only [Array.setIfInBounds, hlt, dite_false]

theorem wpOpIn_strip {j : Nat} {oj : Oper} (hro : F.round = none) (hj : ops[j]? = some oj) (hsj : ∀ cs b, oj.op ≠ .select cs b)
    (hQ : ∀ c (d : Option Tmp) (v : Value) a w, Q (.panic c) (a.put d v) w → Q (.panic c) a w) (val : Nat → Value) {R : Value → World → Prop} {w : World} :
    ∀ (S : List Nat) (b : Act), (∀ i ∈ S, ∃ oi, ops[i]? = some oi ∧ aside ops oi oj = true) →
      wpOpIn F n P ops Q j (fun a' w' => ∃ v, a' = (putL ops val S b).put oj.dst v ∧ R v w') (putL ops val S b) w →
      wpOpIn F n P ops Q j (fun a' w' => ∃ v, a' = b.put oj.dst v ∧ R v w') b w
  | [], b, _, h => h
  | i :: S, b, hS, h => by
    obtain ⟨oi, hoi, hap⟩ := hS i (by simp)
    have h1 := wpOpIn_strip hro hj hsj hQ val S _ (fun k hk => hS k (by simp [hk])) h
    have e : dstAt ops i = oi.dst := by simp [dstAt, hoi]
    rw [e] at h1
    have h2 := wpOpIn_aside hro hj hap hsj (fun c a w => hQ c _ _ a w) h1
    refine wpOpIn_mono (fun a' w' h3 => ?_) h2
    obtain ⟨⟨u, ds, rfl⟩, v, he, hR⟩ := h3
    exact ⟨v, put_inj (aside_spec hap).2 he, hR⟩

/-- The look at the region; guards let in. -/
def chkH (ops : Array Oper) : Bool := chkI ops && Region.noSelect ops && (List.range ops.size).all fun j => match ops[j]? with
  | some oj => (List.range ops.size).all fun i => i == j || match ops[i]? with
    | some oi => (oj.after.any fun e => Region.binds .any e && e.on == i) || aside ops oi oj
    | none => true
  | none => true
theorem chkH_spec (h : chkH ops = true) : chkI ops = true ∧ (∀ (j : Nat) (o : Oper) cs b, ops[j]? = some o → o.op ≠ .select cs b) ∧
    ∀ (i j : Nat) (oi oj : Oper), i ≠ j → ops[i]? = some oi → ops[j]? = some oj → (∃ e ∈ oj.after, Region.binds .any e = true ∧ e.on = i) ∨ aside ops oi oj = true := by
  simp only [chkH, Bool.and_eq_true, List.all_eq_true, List.mem_range] at h
  obtain ⟨⟨h1, h2⟩, h3⟩ := h
  refine ⟨h1, Region.noSelect_spec h2, fun i j oi oj hne hi hj => ?_⟩
  have hlt : j < ops.size := (Array.getElem?_eq_some_iff.1 hj).1
  have hlt' : i < ops.size := (Array.getElem?_eq_some_iff.1 hi).1
  have := h3 j hlt
  rw [hj] at this
  simp only [List.all_eq_true, List.mem_range] at this
  have := this i hlt'
  rw [hi] at this
  simp only [Bool.or_eq_true, beq_iff_eq, hne, false_or, Array.any_eq_true'] at this
  rcases this with ⟨e, he, hb⟩ | h
  · simp at hb; exact .inl ⟨e, he, hb.1, hb.2⟩
  · exact .inr h
/-- The look at the region. -/
def chkG (ops : Array Oper) : Bool := chkI ops && Region.noSelect ops && (List.range ops.size).all fun j => match ops[j]? with
  | some oj => oj.guard.isNone && (List.range ops.size).all fun i => i == j || match ops[i]? with
    | some oi => (oj.after.any fun e => Region.binds .any e && e.on == i) || aside ops oi oj
    | none => true
  | none => true

theorem chkG_spec (h : chkG ops = true) : chkI ops = true ∧ (∀ (j : Nat) (o : Oper) cs b, ops[j]? = some o → o.op ≠ .select cs b) ∧ (∀ (j : Nat) (oj : Oper), ops[j]? = some oj → oj.guard = none) ∧
    ∀ (i j : Nat) (oi oj : Oper), i ≠ j → ops[i]? = some oi → ops[j]? = some oj → (∃ e ∈ oj.after, Region.binds .any e = true ∧ e.on = i) ∨ aside ops oi oj = true := by
  simp only [chkG, Bool.and_eq_true, List.all_eq_true, List.mem_range] at h
  obtain ⟨⟨h1, h2⟩, h3⟩ := h
  refine ⟨h1, Region.noSelect_spec h2, fun j oj hj => ?_, fun i j oi oj hne hi hj => ?_⟩
  · have hlt : j < ops.size := (Array.getElem?_eq_some_iff.1 hj).1
    have := h3 j hlt
    rw [hj] at this
    simp only [Bool.and_eq_true, Option.isNone_iff_eq_none] at this
    exact this.1
  · have hlt : j < ops.size := (Array.getElem?_eq_some_iff.1 hj).1
    have hlt' : i < ops.size := (Array.getElem?_eq_some_iff.1 hi).1
    have := h3 j hlt
    rw [hj] at this
    simp only [Bool.and_eq_true, List.all_eq_true, List.mem_range] at this
    have := this.2 i hlt'
    rw [hi] at this
    simp only [Bool.or_eq_true, beq_iff_eq, hne, false_or, Array.any_eq_true'] at this
    rcases this with ⟨e, he, hb⟩ | h
    · simp at hb; exact .inl ⟨e, he, hb.1, hb.2⟩
    · exact .inr h

def putD (val : Nat → Value) : List (Option Tmp) → Nat → Act → Act
  | [], _, a => a
  | d :: r, k, a => putD val r (k + 1) (a.put d (val k))
theorem putD_eq (val : Nat → Value) : ∀ (m k : Nat) (a : Act), putD val ((List.range' k m).map (dstAt ops)) k a = putL ops val (List.range' k m) a
  | 0, _, _ => rfl
  | m + 1, k, a => by simp only [List.range'_succ, List.map_cons, putD, putL]; exact putD_eq val m (k + 1) _

theorem filter_add {l : Nat → Bool} {i : Nat} (hl : l i = false) : ∀ (m : List Nat), m.Nodup → i ∈ m → (m.filter fun j => j == i || l j).Perm (i :: m.filter l)
  | [], _, h => by cases h
  | x :: m, hn, h => by
    obtain ⟨hx, hn'⟩ := List.nodup_cons.1 hn
    by_cases e : x = i
    · subst e
      have h1 : (m.filter fun j => j == x || l j) = m.filter l := List.filter_congr fun j hj => by
        have : j ≠ x := fun h => hx (h ▸ hj)
        simp [this]
      simp only [List.filter_cons, beq_self_eq_true, Bool.true_or, if_true, hl, Bool.false_eq_true, if_false, h1]
      exact List.Perm.refl _
    · have ih := filter_add hl m hn' (by rcases List.mem_cons.1 h with h | h; exact absurd h.symm e; exact h)
      cases hlx : l x with
      | false => simpa [List.filter_cons, e, hlx] using ih
      | true =>
        simp only [List.filter_cons, hlx, Bool.or_true, if_true]
        exact (ih.cons x).trans (List.Perm.swap i x _)
theorem putL_congr {val val' : Nat → Value} : ∀ (l : List Nat) (a : Act), (∀ i ∈ l, val i = val' i) → putL ops val l a = putL ops val' l a
  | [], _, _ => rfl
  | i :: l, a, h => by
    simp only [putL]
    rw [h i (by simp)]
    exact putL_congr l _ (fun k hk => h k (by simp [hk]))

/-- **A region that draws its order, an operation at a time.** V i: what operation i leaves; G i: what it does to the world; C: what holds throughout. -/
theorem wpIn_region_eachH {id : Nat} {a : Act} {w : World} (ds : List (Option Tmp)) (dv : Nat → Value) (V : Nat → Value → World → Prop) (G : Nat → World → World → Prop) (C : World → Prop) (hro : F.round = none) (hm : P.follows .mixedOrders = true)
    (hchk : chkH ops = true) (hds : ops.toList.map (·.dst) = ds) (hQ : ∀ c (d : Option Tmp) (v : Value) a w, Q (.panic c) (a.put d v) w → Q (.panic c) a w)
    (h0 : C w.drew) (hC : ∀ j W W', C W → G j W W' → C W') (hstab : ∀ i j v W W', i ≠ j → C W → V i v W → G j W W' → V i v W')
    (hop : ∀ i o, ops[i]? = some o → ∀ (val : Nat → Value) W, C W → (∀ j, j ≠ i → val j = dv j ∨ V j (val j) W) → (∀ e ∈ o.after, Region.binds .any e = true → V e.on (val e.on) W) →
      ∀ K : Act → World → Prop, (∀ v w', G i W w' → V i v w' → K ((putD val ds 0 a).put o.dst v) w') → Region.wanted o (yielded ops (putD val ds 0 a).tmps) = true ∧ o.wpIn F n P (putD val ds 0 a) W K Q)
    (hfin : ∀ (val : Nat → Value) W, C W → (∀ i, i < ops.size → V i (val i) W) → Q .normal (putD val ds 0 a) W) : (Code.region id ops true).wpIn F n P Q a w := by
  obtain ⟨c1, c2, c4⟩ := chkH_spec hchk
  have hdist : distinctD ops := by
    intro i j d hne hi hj
    unfold dstAt at hi hj
    cases hoi : ops[i]? with
    | none => rw [hoi] at hi; cases hi
    | some oi =>
      cases hoj : ops[j]? with
      | none => rw [hoj] at hj; cases hj
      | some oj =>
        rw [hoi] at hi
        rw [hoj] at hj
        simp only [Option.bind_some] at hi hj
        have key : ∀ i j (oi oj : Oper), i ≠ j → ops[i]? = some oi → ops[j]? = some oj → oi.dst = some d → oj.dst = some d → (∃ e ∈ oj.after, Region.binds .any e = true ∧ e.on = i) := fun i j oi oj hne hoi hoj hi hj => by
          rcases c4 i j oi oj hne hoi hoj with h | h
          · exact h
          · exact absurd hj ((aside_spec h).2 d hi)
        obtain ⟨e, he, hb, rfl⟩ := key i j oi oj hne hoi hoj hi hj
        obtain ⟨e', he', hb', rfl⟩ := key _ _ oj oi (Ne.symm hne) hoj hoi hj hi
        have lt : ∀ i (o : Oper) e, ops[i]? = some o → e ∈ o.after → Region.binds .any e = true → e.on < i := fun i o e ho he hb => by
          have h1 := List.all_eq_true.1 c1 i (List.mem_range.2 (Array.getElem?_eq_some_iff.1 ho).1)
          simp only [ho] at h1
          have h2 := Array.all_eq_true'.1 h1 e he
          rw [hb] at h2
          simpa using h2
        have := lt _ _ e hoj he hb
        have := lt _ _ e' hoi he' hb'
        omega
  have hcan : ∀ val, putD val ds 0 a = putL ops val (List.range ops.size) a := fun val => by
    rw [List.range_eq_range', ← putD_eq, ← List.range_eq_range', ← hds]
    congr 1
    apply List.ext_getElem?
    intro i
    rw [List.getElem?_map, List.getElem?_map, Array.getElem?_toList]
    by_cases hlt : i < ops.size
    · rw [List.getElem?_range hlt]; simp [dstAt, hlt]
    · rw [Array.getElem?_eq_none (by omega), List.getElem?_eq_none (by simp; omega)]; rfl
  refine wpIn_region_inv (fun l a' W => ∃ val, a' = putL ops val ((List.range ops.size).filter l) a ∧ C W ∧ ∀ i, i < ops.size → l i = true → V i (val i) W) hm c1 ⟨fun _ => undef, ?_, h0, fun _ _ h => by cases h⟩ ?_ ?_
  · rw [List.filter_eq_nil_iff.2 (fun _ _ => by simp)]; rfl
  · rintro l _ W i o hi hli hdep ⟨val, rfl, hCW, hV⟩
    have hlt : i < ops.size := (Array.getElem?_eq_some_iff.1 hi).1
    have lt : ∀ e ∈ o.after, e.on < ops.size ∨ ops[e.on]? = none := fun e _ => by
      rcases Nat.lt_or_ge e.on ops.size with h | h
      · exact .inl h
      · exact .inr (Array.getElem?_eq_none h)
    have hown : ∃ x : Value, (putL ops val ((List.range ops.size).filter l) a).put o.dst x = putL ops val ((List.range ops.size).filter l) a := by
      generalize putL ops val ((List.range ops.size).filter l) a = b
      cases o.dst with
      | none => exact ⟨undef, rfl⟩
      | some d =>
        by_cases hd : d < b.tmps.size
        · refine ⟨b.tmps[d], ?_⟩
          simp [Act.put, Array.setIfInBounds, hd]
        · exact ⟨undef, by simp [Act.put, Array.setIfInBounds, hd]⟩
    obtain ⟨x, hx⟩ := hown
    have hdi : dstAt ops i = o.dst := by simp [dstAt, hi]
    have hval : ∀ k ∈ (List.range ops.size).filter l, val k = (fun j => if j = i then x else if l j && decide (j < ops.size) then val j else dv j) k := fun k hk => by
      have : k ≠ i := fun h => by
        have := (List.mem_filter.1 hk).2
        rw [h, hli] at this
        cases this
      have h2 := List.mem_filter.1 hk
      have h3 := List.mem_range.1 h2.1
      simp [this, h2.2, h3]
    have hl2 : ((List.range ops.size).filter fun j => !l j) = (List.range ops.size).filter fun j => j == i || !(j == i || l j) := List.filter_congr fun j _ => by
      by_cases e : j = i
      · subst e; simp [hli]
      · have e' : (j == i) = false := by simpa using e
        simp only [e', Bool.false_or]
    have hsplit : putD (fun j => if j = i then x else if l j && decide (j < ops.size) then val j else dv j) ds 0 a = putL ops (fun j => if j = i then x else if l j && decide (j < ops.size) then val j else dv j) ((List.range ops.size).filter fun j => !(j == i || l j)) (putL ops val ((List.range ops.size).filter l) a) := by
      rw [hcan]
      rw [putL_perm hdist _ (List.filter_append_perm l _).symm a, putL_append, ← putL_congr _ _ hval, hl2]
      rw [putL_perm hdist _ (filter_add (l := fun j => !(j == i || l j)) (by simp) _ List.nodup_range (List.mem_range.2 hlt))]
      simp only [putL, if_true, hdi, hx]
    have h1 := hop i o hi (fun j => if j = i then x else if l j && decide (j < ops.size) then val j else dv j) W hCW (fun j hj => by
      simp only [hj, if_false]
      by_cases hlj : l j = true ∧ j < ops.size
      · right
        simp only [hlj.1, hlj.2, decide_true, Bool.and_self, if_true]
        exact hV j hlj.2 hlj.1
      · left
        rw [if_neg (by simpa using hlj)]) (fun e he hb => by
      have h1 := List.all_eq_true.1 c1 i (List.mem_range.2 hlt)
      simp only [hi] at h1
      have h2 := Array.all_eq_true'.1 h1 e he
      rw [hb] at h2
      have hlt' : e.on < i := by simpa using h2
      have hne : e.on ≠ i := by omega
      have hlt2 : e.on < ops.size := by omega
      simp only [hne, if_false, hdep e he hb, hlt2, decide_true, Bool.and_self, if_true]
      exact hV _ hlt2 (hdep e he hb))
      (fun a' w' => ∃ v, a' = (putD (fun j => if j = i then x else if l j && decide (j < ops.size) then val j else dv j) ds 0 a).put o.dst v ∧ (G i W w' ∧ V i v w')) (fun v w' hG hv => ⟨v, rfl, hG, hv⟩)
    have h2 : wpOpIn F n P ops Q i (fun a' w' => ∃ v, a' = (putD (fun j => if j = i then x else if l j && decide (j < ops.size) then val j else dv j) ds 0 a).put o.dst v ∧ (G i W w' ∧ V i v w')) (putD (fun j => if j = i then x else if l j && decide (j < ops.size) then val j else dv j) ds 0 a) W := by
      unfold wpOpIn
      simp only [hi]
      rw [if_pos h1.1]
      exact h1.2
    rw [hsplit] at h2
    have h3 := wpOpIn_strip (R := fun v w' => G i W w' ∧ V i v w') hro hi (fun cs b => c2 i o cs b hi) hQ (fun j => if j = i then x else if l j && decide (j < ops.size) then val j else dv j) ((List.range ops.size).filter fun j => !(j == i || l j))
      (putL ops val ((List.range ops.size).filter l) a) ?_ h2
    · refine wpOpIn_mono (fun a' w' h => ?_) h3
      obtain ⟨v, rfl, hG, hv⟩ := h
      refine ⟨fun j => if j = i then v else val j, ?_, hC _ _ _ hCW hG, fun j hj hlj => ?_⟩
      · have e1 : putL ops val ((List.range ops.size).filter l) a = putL ops (fun j => if j = i then v else val j) ((List.range ops.size).filter l) a := putL_congr _ _ (fun k hk => by
          have : k ≠ i := fun h => by
            have := (List.mem_filter.1 hk).2
            rw [h, hli] at this
            cases this
          simp [this])
        rw [putL_perm hdist _ ((filter_add hli _ List.nodup_range (List.mem_range.2 hlt)).trans (List.perm_append_singleton i _).symm) a, putL_append, ← e1]
        simp [putL, dstAt, hi]
      · by_cases e : j = i
        · subst e; simpa using hv
        · simp only [e, if_false]
          refine hstab j i _ W w' e hCW (hV j hj ?_) hG
          simpa [e] using hlj
    · intro k hk
      obtain ⟨hk1, hk2⟩ := List.mem_filter.1 hk
      have hk1 := List.mem_range.1 hk1
      have e : k ≠ i := fun h => by subst h; simp at hk2
      rcases c4 k i _ o e (Array.getElem?_eq_getElem hk1) hi with ⟨e', he', hb', rfl⟩ | h
      · have := hdep e' he' hb'
        simp [this] at hk2
      · exact ⟨_, Array.getElem?_eq_getElem hk1, h⟩
  · rintro l _ W hall ⟨val, rfl, hCW, hV⟩
    have : (List.range ops.size).filter l = List.range ops.size := List.filter_eq_self.2 fun i hi => hall i (List.mem_range.1 hi)
    rw [this, ← hcan]
    exact hfin val W hCW (fun i hi => hV i hi (hall i hi))

theorem wpIn_region_each {id : Nat} {a : Act} {w : World} (ds : List (Option Tmp)) (dv : Nat → Value) (V : Nat → Value → World → Prop) (G : Nat → World → World → Prop) (C : World → Prop) (hro : F.round = none) (hm : P.follows .mixedOrders = true)
    (hchk : chkG ops = true) (hds : ops.toList.map (·.dst) = ds) (hQ : ∀ c (d : Option Tmp) (v : Value) a w, Q (.panic c) (a.put d v) w → Q (.panic c) a w)
    (h0 : C w.drew) (hC : ∀ j W W', C W → G j W W' → C W') (hstab : ∀ i j v W W', i ≠ j → C W → V i v W → G j W W' → V i v W')
    (hop : ∀ i o, ops[i]? = some o → ∀ (val : Nat → Value) W, C W → (∀ j, j ≠ i → val j = dv j ∨ V j (val j) W) → (∀ e ∈ o.after, Region.binds .any e = true → V e.on (val e.on) W) →
      ∀ K : Act → World → Prop, (∀ v w', G i W w' → V i v w' → K ((putD val ds 0 a).put o.dst v) w') → o.wpIn F n P (putD val ds 0 a) W K Q)
    (hfin : ∀ (val : Nat → Value) W, C W → (∀ i, i < ops.size → V i (val i) W) → Q .normal (putD val ds 0 a) W) : (Code.region id ops true).wpIn F n P Q a w := by
  obtain ⟨c1, c2, c3, c4⟩ := chkG_spec hchk
  have hH : chkH ops = true := by
    simp only [chkG, Bool.and_eq_true, List.all_eq_true, List.mem_range] at hchk
    simp only [chkH, Bool.and_eq_true, List.all_eq_true, List.mem_range]
    refine ⟨hchk.1, fun j hj => ?_⟩
    have := hchk.2 j hj
    rw [Array.getElem?_eq_getElem hj] at this ⊢
    simp only [Bool.and_eq_true] at this
    exact this.2
  refine wpIn_region_eachH ds dv V G C hro hm hH hds hQ h0 hC hstab (fun i o hi val W hCW hd hdep K hK => ⟨?_, hop i o hi val W hCW hd hdep K hK⟩) hfin
  have hg := c3 i o hi
  unfold Region.wanted
  rw [hg]

def opsAll (f : Nat → Oper → Prop) : List Oper → Nat → Prop
  | [], _ => True
  | o :: r, k => f k o ∧ opsAll f r (k + 1)
theorem opsAll_get {f : Nat → Oper → Prop} : ∀ (l : List Oper) (k : Nat), opsAll f l k → ∀ i o, l[i]? = some o → f (k + i) o
  | [], _, _, i, o, h => by simp at h
  | x :: l, k, h, 0, o, hi => by simp at hi; subst hi; exact h.1
  | x :: l, k, h, i + 1, o, hi => by
    have := opsAll_get l (k + 1) h.2 i o (by simpa using hi)
    rwa [show k + 1 + i = k + (i + 1) by omega] at this
def depAll (p : Nat → Prop) : List Edge → Prop
  | [] => True
  | e :: r => (if Region.binds .any e then p e.on else True) ∧ depAll p r
theorem depAll_of {p : Nat → Prop} : ∀ (l : List Edge), (∀ e ∈ l, Region.binds .any e = true → p e.on) → depAll p l
  | [], _ => trivial
  | e :: l, h => ⟨by split; exact h e (by simp) (by assumption); trivial, depAll_of l (fun x hx => h x (by simp [hx]))⟩

theorem op_li {o : Oper} {a : Act} {w : World} {K : Act → World → Prop} (hro : F.round = none) (h : o.about P w a.eval = none ∧ liUpon w (fun v => K (a.put o.dst v) w) ((execOp a.eval o).run P w)) : o.wpIn F n P a w K Q := by
  obtain ⟨hab, h⟩ := h
  unfold Oper.wpIn
  refine ⟨fun f hf => (by rw [hab] at hf; cases hf), ?_⟩
  rw [hro, Oper.semAt_none]
  generalize (execOp a.eval o).run P w = r at *
  unfold liUpon at h
  split at h
  · obtain ⟨rfl, h⟩ := h
    exact h
  · exact h.elim
def nthV : List Value → Nat → Value
  | [], _ => undef
  | x :: _, 0 => x
  | _ :: l, n + 1 => nthV l n
/-- **Each operation hands back a value that is known ahead.** -/
theorem wpIn_region_vals {id : Nat} {a : Act} {w : World} (ds : List (Option Tmp)) (vs : Nat → Value) (C : World → Prop) (hro : F.round = none) (hm : P.follows .mixedOrders = true)
    (hchk : chkG ops = true) (hds : ops.toList.map (·.dst) = ds) (hQ : ∀ c (d : Option Tmp) (v : Value) a w, Q (.panic c) (a.put d v) w → Q (.panic c) a w)
    (h0 : C w.drew) (hop : opsAll (fun i o => ∀ x W, C W → ∀ K : Act → World → Prop, (∀ w', C w' → K ((putD (fun j => if j = i then x else vs j) ds 0 a).put o.dst (vs i)) w') → o.wpIn F n P (putD (fun j => if j = i then x else vs j) ds 0 a) W K Q) ops.toList 0)
    (hfin : ∀ W, C W → Q .normal (putD vs ds 0 a) W) : (Code.region id ops true).wpIn F n P Q a w := by
  refine wpIn_region_each ds vs (fun i v _ => v = vs i) (fun _ _ W' => C W') C hro hm hchk hds hQ h0 (fun _ _ _ _ h => h) (fun _ _ _ _ _ _ _ h _ => h) (fun i o hi val W hCW hd _ K hK => ?_) (fun val W hCW hV => ?_)
  · have hv : val = fun j => if j = i then val i else vs j := by
      funext j
      by_cases e : j = i
      · subst e; simp
      · simp only [e, if_false]
        rcases hd j e with h | h <;> exact h
    have := opsAll_get _ _ hop i o (by rw [Array.getElem?_toList]; exact hi) (val i) W hCW K
    simp only [Nat.zero_add] at this
    rw [← hv] at this
    exact this (fun w' hC' => hK _ _ hC' rfl)
  · have key : ∀ (l : List (Option Tmp)) (k : Nat) (b : Act), k + l.length ≤ ops.size → putD val l k b = putD vs l k b := by
      intro l
      induction l with
      | nil => intro k b _; rfl
      | cons d r ih =>
        intro k b h
        simp only [List.length_cons] at h
        simp only [putD]
        rw [hV k (by omega), ih (k + 1) _ (by omega)]
    rw [key ds 0 a (by rw [← hds]; simp)]
    exact hfin W hCW

/-- The same, guards let in. -/
theorem wpIn_region_valsG {id : Nat} {a : Act} {w : World} (ds : List (Option Tmp)) (vs : Nat → Value) (C : World → Prop) (hro : F.round = none) (hm : P.follows .mixedOrders = true)
    (hchk : chkH ops = true) (hds : ops.toList.map (·.dst) = ds) (hQ : ∀ c (d : Option Tmp) (v : Value) a w, Q (.panic c) (a.put d v) w → Q (.panic c) a w)
    (h0 : C w.drew) (hop : opsAll (fun i o => ∀ x W, C W → ∀ K : Act → World → Prop, (∀ w', C w' → K ((putD (fun j => if j = i then x else vs j) ds 0 a).put o.dst (vs i)) w') → Region.wanted o (yielded ops (putD (fun j => if j = i then x else vs j) ds 0 a).tmps) = true ∧ o.wpIn F n P (putD (fun j => if j = i then x else vs j) ds 0 a) W K Q) ops.toList 0)
    (hfin : ∀ W, C W → Q .normal (putD vs ds 0 a) W) : (Code.region id ops true).wpIn F n P Q a w := by
  refine wpIn_region_eachH ds vs (fun i v _ => v = vs i) (fun _ _ W' => C W') C hro hm hchk hds hQ h0 (fun _ _ _ _ h => h) (fun _ _ _ _ _ _ _ h _ => h) (fun i o hi val W hCW hd _ K hK => ?_) (fun val W hCW hV => ?_)
  · have hv : val = fun j => if j = i then val i else vs j := by
      funext j
      by_cases e : j = i
      · subst e; simp
      · simp only [e, if_false]
        rcases hd j e with h | h <;> exact h
    have := opsAll_get _ _ hop i o (by rw [Array.getElem?_toList]; exact hi) (val i) W hCW K
    simp only [Nat.zero_add] at this
    rw [← hv] at this
    exact this (fun w' hC' => hK _ _ hC' rfl)
  · have key : ∀ (l : List (Option Tmp)) (k : Nat) (b : Act), k + l.length ≤ ops.size → putD val l k b = putD vs l k b := by
      intro l
      induction l with
      | nil => intro k b _; rfl
      | cons d r ih =>
        intro k b h
        simp only [List.length_cons] at h
        simp only [putD]
        rw [hV k (by omega), ih (k + 1) _ (by omega)]
    rw [key ds 0 a (by rw [← hds]; simp)]
    exact hfin W hCW

theorem wpIn_region_ops {id : Nat} {a : Act} {w : World} (ds : List (Option Tmp)) (V : Nat → Value → World → Prop) (G : Nat → World → World → Prop) (C : World → Prop) (hro : F.round = none) (hm : P.follows .mixedOrders = true)
    (hchk : chkG ops = true) (hds : ops.toList.map (·.dst) = ds) (hQ : ∀ c (d : Option Tmp) (v : Value) a w, Q (.panic c) (a.put d v) w → Q (.panic c) a w)
    (h0 : C w.drew) (hC : ∀ j W W', C W → G j W W' → C W') (hstab : ∀ i j v W W', i ≠ j → C W → V i v W → G j W W' → V i v W')
    (hop : opsAll (fun i o => ∀ (val : Nat → Value) W, C W → depAll (fun j => V j (val j) W) o.after.toList →
      ∀ K : Act → World → Prop, (∀ v w', G i W w' → V i v w' → K ((putD val ds 0 a).put o.dst v) w') → o.wpIn F n P (putD val ds 0 a) W K Q) ops.toList 0)
    (hfin : ∀ (val : Nat → Value) W, C W → depAll (fun i => V i (val i) W) ((List.range ops.size).map fun i => ⟨i, .data⟩) → Q .normal (putD val ds 0 a) W) : (Code.region id ops true).wpIn F n P Q a w := by
  refine wpIn_region_each ds (fun _ => undef) V G C hro hm hchk hds hQ h0 hC hstab (fun i o hi val W hCW _ hd K hK => ?_) (fun val W hCW hV => hfin val W hCW (depAll_of _ (fun e he _ => ?_)))
  · have := opsAll_get _ _ hop i o (by rw [Array.getElem?_toList]; exact hi) val W hCW (depAll_of _ (fun e he hb => hd e (by simpa using he) hb)) K
    simp only [Nat.zero_add] at this
    exact this hK
  · obtain ⟨i, hi, rfl⟩ := List.mem_map.1 he
    exact hV i (List.mem_range.1 hi)
end
end Go.Proofs.Ytilmlgngnbokfaa
