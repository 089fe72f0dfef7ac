/- A region that draws its order; operations whose guard says no. -/
import Derived.Test.YtfebhofihioaoaaPg
namespace Go.Proofs.Ytfebhofihioaoaa
set_option linter.unusedVariables false
set_option linter.unusedSimpArgs false
open Go

section
variable {F : Fence} {n : Nat} {P : Program} {ops : Array Oper} {Q : Exit → Act → World → Prop}
/-- As wpIn_region_eachH; an operation whose guard says no is left out. -/
theorem wpIn_region_eachW {id : Nat} {a : Act} {w : World} (ds : List (Option Tmp)) (dv : Nat → Value) (V : Nat → Value → World → Prop) (G : Nat → World → World → Prop) (C : World → Prop) (hro : F.round = none) (hm : P.follows .mixedOrders = true)
    (hchk : chkH ops = true) (hds : ops.toList.map (·.dst) = ds) (hQ : ∀ c (d : Option Tmp) (v : Value) a w, Q (.panic c) (a.put d v) w → Q (.panic c) a w)
    (h0 : C w.drew) (hC : ∀ j W W', C W → G j W W' → C W') (hstab : ∀ i j v W W', i ≠ j → C W → V i v W → G j W W' → V i v W')
    (hop : ∀ i o, ops[i]? = some o → ∀ (val : Nat → Value) W, C W → (∀ j, j ≠ i → val j = dv j ∨ V j (val j) W) → (∀ e ∈ o.after, Region.binds .any e = true → V e.on (val e.on) W) →
      ∀ K : Act → World → Prop, (∀ v w', G i W w' → V i v w' → K ((putD val ds 0 a).put o.dst v) w') → if Region.wanted o (yielded ops (putD val ds 0 a).tmps) then o.wpIn F n P (putD val ds 0 a) W K Q else (∀ f, o.about P W (putD val ds 0 a).eval = some f → F.fn f) ∧ K ((putD val ds 0 a).put o.dst undef) W)
    (hfin : ∀ (val : Nat → Value) W, C W → (∀ i, i < ops.size → V i (val i) W) → Q .normal (putD val ds 0 a) W) : (Code.region id ops true).wpIn F n P Q a w := by
  obtain ⟨c1, c2, c4⟩ := chkH_spec hchk
  have hdist : distinctD ops := by
    intro i j d hne hi hj
    unfold dstAt at hi hj
    cases hoi : ops[i]? with
    | none => rw [hoi] at hi; cases hi
    | some oi =>
      cases hoj : ops[j]? with
      | none => rw [hoj] at hj; cases hj
      | some oj =>
        rw [hoi] at hi
        rw [hoj] at hj
        simp only [Option.bind_some] at hi hj
        have key : ∀ i j (oi oj : Oper), i ≠ j → ops[i]? = some oi → ops[j]? = some oj → oi.dst = some d → oj.dst = some d → (∃ e ∈ oj.after, Region.binds .any e = true ∧ e.on = i) := fun i j oi oj hne hoi hoj hi hj => by
          rcases c4 i j oi oj hne hoi hoj with h | h
          · exact h
          · exact absurd hj ((aside_spec h).2 d hi)
        obtain ⟨e, he, hb, rfl⟩ := key i j oi oj hne hoi hoj hi hj
        obtain ⟨e', he', hb', rfl⟩ := key _ _ oj oi (Ne.symm hne) hoj hoi hj hi
        have lt : ∀ i (o : Oper) e, ops[i]? = some o → e ∈ o.after → Region.binds .any e = true → e.on < i := fun i o e ho he hb => by
          have h1 := List.all_eq_true.1 c1 i (List.mem_range.2 (Array.getElem?_eq_some_iff.1 ho).1)
          simp only [ho] at h1
          have h2 := Array.all_eq_true'.1 h1 e he
          rw [hb] at h2
          simpa using h2
        have := lt _ _ e hoj he hb
        have := lt _ _ e' hoi he' hb'
        omega
  have hcan : ∀ val, putD val ds 0 a = putL ops val (List.range ops.size) a := fun val => by
    rw [List.range_eq_range', ← putD_eq, ← List.range_eq_range', ← hds]
    congr 1
    apply List.ext_getElem?
    intro i
    rw [List.getElem?_map, List.getElem?_map, Array.getElem?_toList]
    by_cases hlt : i < ops.size
    · rw [List.getElem?_range hlt]; simp [dstAt, hlt]
    · rw [Array.getElem?_eq_none (by omega), List.getElem?_eq_none (by simp; omega)]; rfl
  refine wpIn_region_inv (fun l a' W => ∃ val, a' = putL ops val ((List.range ops.size).filter l) a ∧ C W ∧ ∀ i, i < ops.size → l i = true → V i (val i) W) hm c1 ⟨fun _ => undef, ?_, h0, fun _ _ h => by cases h⟩ ?_ ?_
  · rw [List.filter_eq_nil_iff.2 (fun _ _ => by simp)]; rfl
  · rintro l _ W i o hi hli hdep ⟨val, rfl, hCW, hV⟩
    have hlt : i < ops.size := (Array.getElem?_eq_some_iff.1 hi).1
    have lt : ∀ e ∈ o.after, e.on < ops.size ∨ ops[e.on]? = none := fun e _ => by
      rcases Nat.lt_or_ge e.on ops.size with h | h
      · exact .inl h
      · exact .inr (Array.getElem?_eq_none h)
    have hown : ∃ x : Value, (putL ops val ((List.range ops.size).filter l) a).put o.dst x = putL ops val ((List.range ops.size).filter l) a := by
      generalize putL ops val ((List.range ops.size).filter l) a = b
      cases o.dst with
      | none => exact ⟨undef, rfl⟩
      | some d =>
        by_cases hd : d < b.tmps.size
        · refine ⟨b.tmps[d], ?_⟩
          simp [Act.put, Array.setIfInBounds, hd]
        · exact ⟨undef, by simp [Act.put, Array.setIfInBounds, hd]⟩
    obtain ⟨x, hx⟩ := hown
    have hdi : dstAt ops i = o.dst := by simp [dstAt, hi]
    have hval : ∀ k ∈ (List.range ops.size).filter l, val k = (fun j => if j = i then x else if l j && decide (j < ops.size) then val j else dv j) k := fun k hk => by
      have : k ≠ i := fun h => by
        have := (List.mem_filter.1 hk).2
        rw [h, hli] at this
        cases this
      have h2 := List.mem_filter.1 hk
      have h3 := List.mem_range.1 h2.1
      simp [this, h2.2, h3]
    have hl2 : ((List.range ops.size).filter fun j => !l j) = (List.range ops.size).filter fun j => j == i || !(j == i || l j) := List.filter_congr fun j _ => by
      by_cases e : j = i
      · subst e; simp [hli]
      · have e' : (j == i) = false := by simpa using e
        simp only [e', Bool.false_or]
    have hsplit : putD (fun j => if j = i then x else if l j && decide (j < ops.size) then val j else dv j) ds 0 a = putL ops (fun j => if j = i then x else if l j && decide (j < ops.size) then val j else dv j) ((List.range ops.size).filter fun j => !(j == i || l j)) (putL ops val ((List.range ops.size).filter l) a) := by
      rw [hcan]
      rw [putL_perm hdist _ (List.filter_append_perm l _).symm a, putL_append, ← putL_congr _ _ hval, hl2]
      rw [putL_perm hdist _ (filter_add (l := fun j => !(j == i || l j)) (by simp) _ List.nodup_range (List.mem_range.2 hlt))]
      simp only [putL, if_true, hdi, hx]
    have h1 := hop i o hi (fun j => if j = i then x else if l j && decide (j < ops.size) then val j else dv j) W hCW (fun j hj => by
      simp only [hj, if_false]
      by_cases hlj : l j = true ∧ j < ops.size
      · right
        simp only [hlj.1, hlj.2, decide_true, Bool.and_self, if_true]
        exact hV j hlj.2 hlj.1
      · left
        rw [if_neg (by simpa using hlj)]) (fun e he hb => by
      have h1 := List.all_eq_true.1 c1 i (List.mem_range.2 hlt)
      simp only [hi] at h1
      have h2 := Array.all_eq_true'.1 h1 e he
      rw [hb] at h2
      have hlt' : e.on < i := by simpa using h2
      have hne : e.on ≠ i := by omega
      have hlt2 : e.on < ops.size := by omega
      simp only [hne, if_false, hdep e he hb, hlt2, decide_true, Bool.and_self, if_true]
      exact hV _ hlt2 (hdep e he hb))
      (fun a' w' => ∃ v, a' = (putD (fun j => if j = i then x else if l j && decide (j < ops.size) then val j else dv j) ds 0 a).put o.dst v ∧ (G i W w' ∧ V i v w')) (fun v w' hG hv => ⟨v, rfl, hG, hv⟩)
    have h2 : wpOpIn F n P ops Q i (fun a' w' => ∃ v, a' = (putD (fun j => if j = i then x else if l j && decide (j < ops.size) then val j else dv j) ds 0 a).put o.dst v ∧ (G i W w' ∧ V i v w')) (putD (fun j => if j = i then x else if l j && decide (j < ops.size) then val j else dv j) ds 0 a) W := by
      unfold wpOpIn
      simp only [hi]
      exact h1
    rw [hsplit] at h2
    have h3 := wpOpIn_strip (R := fun v w' => G i W w' ∧ V i v w') hro hi (fun cs b => c2 i o cs b hi) hQ (fun j => if j = i then x else if l j && decide (j < ops.size) then val j else dv j) ((List.range ops.size).filter fun j => !(j == i || l j))
      (putL ops val ((List.range ops.size).filter l) a) ?_ h2
    · refine wpOpIn_mono (fun a' w' h => ?_) h3
      obtain ⟨v, rfl, hG, hv⟩ := h
      refine ⟨fun j => if j = i then v else val j, ?_, hC _ _ _ hCW hG, fun j hj hlj => ?_⟩
      · have e1 : putL ops val ((List.range ops.size).filter l) a = putL ops (fun j => if j = i then v else val j) ((List.range ops.size).filter l) a := putL_congr _ _ (fun k hk => by
          have : k ≠ i := fun h => by
            have := (List.mem_filter.1 hk).2
            rw [h, hli] at this
            cases this
          simp [this])
        rw [putL_perm hdist _ ((filter_add hli _ List.nodup_range (List.mem_range.2 hlt)).trans (List.perm_append_singleton i _).symm) a, putL_append, ← e1]
        simp [putL, dstAt, hi]
      · by_cases e : j = i
        · subst e; simpa using hv
        · simp only [e, if_false]
          refine hstab j i _ W w' e hCW (hV j hj ?_) hG
          simpa [e] using hlj
    · intro k hk
      obtain ⟨hk1, hk2⟩ := List.mem_filter.1 hk
      have hk1 := List.mem_range.1 hk1
      have e : k ≠ i := fun h => by subst h; simp at hk2
      rcases c4 k i _ o e (Array.getElem?_eq_getElem hk1) hi with ⟨e', he', hb', rfl⟩ | h
      · have := hdep e' he' hb'
        simp [this] at hk2
      · exact ⟨_, Array.getElem?_eq_getElem hk1, h⟩
  · rintro l _ W hall ⟨val, rfl, hCW, hV⟩
    have : (List.range ops.size).filter l = List.range ops.size := List.filter_eq_self.2 fun i hi => hall i (List.mem_range.1 hi)
    rw [this, ← hcan]
    exact hfin val W hCW (fun i hi => hV i hi (hall i hi))

/-- The values are known ahead; an operation whose guard says no yields nothing. -/
theorem wpIn_region_valsW {id : Nat} {a : Act} {w : World} (ds : List (Option Tmp)) (vs : Nat → Value) (C : World → Prop) (hro : F.round = none) (hm : P.follows .mixedOrders = true)
    (hchk : chkH ops = true) (hds : ops.toList.map (·.dst) = ds) (hQ : ∀ c (d : Option Tmp) (v : Value) a w, Q (.panic c) (a.put d v) w → Q (.panic c) a w)
    (h0 : C w.drew) (hop : opsAll (fun i o => ∀ x W, C W → ∀ K : Act → World → Prop, (∀ w', C w' → K ((putD (fun j => if j = i then x else vs j) ds 0 a).put o.dst (vs i)) w') → if Region.wanted o (yielded ops (putD (fun j => if j = i then x else vs j) ds 0 a).tmps) then o.wpIn F n P (putD (fun j => if j = i then x else vs j) ds 0 a) W K Q else (∀ f, o.about P W (putD (fun j => if j = i then x else vs j) ds 0 a).eval = some f → F.fn f) ∧ K ((putD (fun j => if j = i then x else vs j) ds 0 a).put o.dst undef) W) ops.toList 0)
    (hfin : ∀ W, C W → Q .normal (putD vs ds 0 a) W) : (Code.region id ops true).wpIn F n P Q a w := by
  refine wpIn_region_eachW ds vs (fun i v _ => v = vs i) (fun _ _ W' => C W') C hro hm hchk hds hQ h0 (fun _ _ _ _ h => h) (fun _ _ _ _ _ _ _ h _ => h) (fun i o hi val W hCW hd _ K hK => ?_) (fun val W hCW hV => ?_)
  · have hv : val = fun j => if j = i then val i else vs j := by
      funext j
      by_cases e : j = i
      · subst e; simp
      · simp only [e, if_false]
        rcases hd j e with h | h <;> exact h
    have := opsAll_get _ _ hop i o (by rw [Array.getElem?_toList]; exact hi) (val i) W hCW K
    simp only [Nat.zero_add] at this
    rw [← hv] at this
    exact this (fun w' hC' => hK _ _ hC' rfl)
  · have key : ∀ (l : List (Option Tmp)) (k : Nat) (b : Act), k + l.length ≤ ops.size → putD val l k b = putD vs l k b := by
      intro l
      induction l with
      | nil => intro k b _; rfl
      | cons d r ih =>
        intro k b h
        simp only [List.length_cons] at h
        simp only [putD]
        rw [hV k (by omega), ih (k + 1) _ (by omega)]
    rw [key ds 0 a (by rw [← hds]; simp)]
    exact hfin W hCW


/-! The frame as a look-up: what a region's operations see. -/
def lookV : List (Option Tmp) → Nat → (Nat → Value) → (Tmp → Value) → Tmp → Value
  | [], _, _, e, t => e t
  | none :: r, k, f, e, t => lookV r (k + 1) f e t
  | some d :: r, k, f, e, t => if d = t then f k else lookV r (k + 1) f e t
def envV (ds : List (Option Tmp)) (f : Nat → Value) (a : Act) : Operand → Value
  | .tmp t => lookV ds 0 f (fun t => a.tmps.getD t undef) t
  | .const v => v
  | .global g => .pointer (some ⟨g, 0, none⟩)
  | .func f => .func (.func f) #[] #[]
def nodupB : List Nat → Bool
  | [] => true
  | x :: r => !(r.any fun y => y == x) && nodupB r
def okD (ds : List (Option Tmp)) (n : Nat) : Bool := nodupB (ds.filterMap id) && ds.all fun d => match d with
  | some d => decide (d < n)
  | none => true
theorem nodupB_spec : ∀ {l : List Nat}, nodupB l = true → l.Nodup
  | [], _ => List.nodup_nil
  | x :: r, h => by
    simp only [nodupB, Bool.and_eq_true, Bool.not_eq_true', List.any_eq_false, beq_iff_eq] at h
    exact List.nodup_cons.2 ⟨fun hx => h.1 x hx rfl, nodupB_spec h.2⟩
theorem okD_spec {ds : List (Option Tmp)} {n : Nat} (h : okD ds n = true) : (ds.filterMap id).Nodup ∧ ∀ d, some d ∈ ds → d < n := by
  simp only [okD, Bool.and_eq_true, List.all_eq_true] at h
  exact ⟨nodupB_spec h.1, fun d hd => by simpa using h.2 _ hd⟩
theorem put_get {a : Act} {d t : Tmp} {v : Value} (h : d < a.tmps.size) : (a.put (some d) v).tmps.getD t undef = if d = t then v else a.tmps.getD t undef := by
  simp only [Act.put, Array.getD_eq_getD_getElem?, Array.getElem?_setIfInBounds]
  by_cases e : d = t
  · subst e; simp [h]
  · simp [e]
theorem lookV_congr {f : Nat → Value} {e e' : Tmp → Value} {t : Tmp} (h : e t = e' t) : ∀ (ds : List (Option Tmp)) (k : Nat), lookV ds k f e t = lookV ds k f e' t
  | [], _ => h
  | none :: r, k => lookV_congr h r (k + 1)
  | some d :: r, k => by
    simp only [lookV]
    split
    · rfl
    · exact lookV_congr h r (k + 1)
theorem lookV_not {f : Nat → Value} {e : Tmp → Value} {t : Tmp} : ∀ (ds : List (Option Tmp)) (k : Nat), some t ∉ ds → lookV ds k f e t = e t
  | [], _, _ => rfl
  | none :: r, k, h => lookV_not r (k + 1) (fun h' => h (by simp [h']))
  | some d :: r, k, h => by
    simp only [lookV]
    rw [if_neg (fun e => h (by simp [e]))]
    exact lookV_not r (k + 1) (fun h' => h (by simp [h']))
theorem putD_get (f : Nat → Value) (t : Tmp) : ∀ (ds : List (Option Tmp)) (k : Nat) (a : Act), (ds.filterMap id).Nodup → (∀ d, some d ∈ ds → d < a.tmps.size) → (putD f ds k a).tmps.size = a.tmps.size ∧ (putD f ds k a).tmps.getD t undef = lookV ds k f (fun t => a.tmps.getD t undef) t
  | [], _, _, _, _ => ⟨rfl, rfl⟩
  | none :: r, k, a, h1, h2 => putD_get f t r (k + 1) a (by simpa using h1) (fun d hd => h2 d (by simp [hd]))
  | some d :: r, k, a, h1, h2 => by
    have hd := h2 d (by simp)
    simp only [List.filterMap_cons, id_eq, List.nodup_cons] at h1
    obtain ⟨h3, h4⟩ := h1
    have hs : (a.put (some d) (f k)).tmps.size = a.tmps.size := by simp [Act.put]
    obtain ⟨e1, e2⟩ := putD_get f t r (k + 1) (a.put (some d) (f k)) h4 (fun d' hd' => by rw [hs]; exact h2 d' (by simp [hd']))
    refine ⟨e1.trans hs, ?_⟩
    simp only [putD, lookV]
    rw [e2]
    by_cases e : d = t
    · subst e
      rw [if_pos rfl, lookV_not r (k + 1) (fun hm => h3 (List.mem_filterMap.2 ⟨_, hm, rfl⟩)), put_get hd, if_pos rfl]
    · rw [if_neg e]
      exact lookV_congr (by rw [put_get hd, if_neg e]) r (k + 1)
theorem lookV_at (f : Nat → Value) (e : Tmp → Value) (d : Tmp) : ∀ (ds : List (Option Tmp)) (k j : Nat), (ds.filterMap id).Nodup → ds[j]? = some (some d) → lookV ds k f e d = f (k + j)
  | [], _, _, _, h => by simp at h
  | none :: r, k, 0, _, h => by simp at h
  | none :: r, k, j + 1, h1, h => by
    have := lookV_at f e d r (k + 1) j (by simpa using h1) (by simpa using h)
    simp only [lookV]
    rw [this, show k + 1 + j = k + (j + 1) by omega]
  | some d' :: r, k, 0, h1, h => by
    simp at h
    subst h
    simp [lookV]
  | some d' :: r, k, j + 1, h1, h => by
    simp only [List.filterMap_cons, id_eq, List.nodup_cons] at h1
    have hm : some d ∈ r := List.mem_of_getElem? (by simpa using h)
    have hne : d' ≠ d := fun e => h1.1 (e ▸ List.mem_filterMap.2 ⟨_, hm, rfl⟩)
    have := lookV_at f e d r (k + 1) j h1.2 (by simpa using h)
    simp only [lookV]
    rw [if_neg hne, this, show k + 1 + j = k + (j + 1) by omega]
theorem eval_putD {f : Nat → Value} {ds : List (Option Tmp)} {a : Act} (h : okD ds a.tmps.size = true) : (putD f ds 0 a).eval = envV ds f a := by
  obtain ⟨h1, h2⟩ := okD_spec h
  funext x
  cases x with
  | tmp t => exact (putD_get f t ds 0 a h1 h2).2
  | const v => rfl
  | global g => rfl
  | func g => rfl
def boolV : Value → Option Bool
  | .bool b => some b
  | _ => none
def yV (ds : List (Option Tmp)) (f : Nat → Value) (j : Nat) : Option Bool := match ds[j]? with
  | some (some _) => boolV (f j)
  | _ => none
def wantV (ds : List (Option Tmp)) (f : Nat → Value) (o : Oper) : Bool := match o.guard with
  | none => true
  | some (j, c) => yV ds f j == some c
theorem yielded_putD {f : Nat → Value} {ds : List (Option Tmp)} {a : Act} (hds : ops.toList.map (·.dst) = ds) (h : okD ds a.tmps.size = true) (j : Nat) : yielded ops (putD f ds 0 a).tmps j = yV ds f j := by
  obtain ⟨h1, h2⟩ := okD_spec h
  have hd : ds[j]? = (ops[j]?).map (·.dst) := by rw [← hds, List.getElem?_map, Array.getElem?_toList]
  unfold yielded yV
  rw [hd]
  cases ho : ops[j]? with
  | none => rfl
  | some o =>
    simp only [Option.map_some, Option.bind_some]
    rw [ho] at hd
    simp only [Option.map_some] at hd
    cases hdst : o.dst with
    | none => rfl
    | some d =>
      rw [hdst] at hd
      have hlt := h2 d (List.mem_of_getElem? hd)
      obtain ⟨e1, e2⟩ := putD_get f d ds 0 a h1 h2
      rw [lookV_at f _ d ds 0 j h1 hd, Nat.zero_add, Array.getD_eq_getD_getElem?] at e2
      simp only [Option.bind_some]
      have hlt2 : d < (putD f ds 0 a).tmps.size := by rw [e1]; exact hlt
      rw [Array.getElem?_eq_getElem hlt2] at e2 ⊢
      simp only [Option.getD_some] at e2
      rw [e2]
      cases f j <;> rfl
theorem want_putD {f : Nat → Value} {ds : List (Option Tmp)} {a : Act} (hds : ops.toList.map (·.dst) = ds) (h : okD ds a.tmps.size = true) (o : Oper) : Region.wanted o (yielded ops (putD f ds 0 a).tmps) = wantV ds f o := by
  unfold Region.wanted wantV
  cases o.guard with
  | none => rfl
  | some g => simp only [yielded_putD hds h]
/-- **The values are known ahead; each operation sees the frame by look-up.** -/
theorem wpIn_region_valsE {id : Nat} {a : Act} {w : World} (ds : List (Option Tmp)) (vs : Nat → Value) (C : World → Prop) (hro : F.round = none) (hm : P.follows .mixedOrders = true) (hfn : ∀ f, F.fn f)
    (hchk : chkH ops = true) (hds : ops.toList.map (·.dst) = ds) (hok : okD ds a.tmps.size = true) (hQ : ∀ c (d : Option Tmp) (v : Value) a w, Q (.panic c) (a.put d v) w → Q (.panic c) a w)
    (h0 : C w.drew) (hop : opsAll (fun i o => ∀ x W, C W → if wantV ds (fun j => if j = i then x else vs j) o = true then (∀ b : Act, b.eval = envV ds (fun j => if j = i then x else vs j) a → ∀ K : Act → World → Prop, (∀ w', C w' → K (b.put o.dst (vs i)) w') → o.wpIn F n P b W K Q) else vs i = undef) ops.toList 0)
    (hfin : ∀ W, C W → Q .normal (putD vs ds 0 a) W) : (Code.region id ops true).wpIn F n P Q a w := by
  refine wpIn_region_valsW ds vs C hro hm hchk hds hQ h0 ?_ hfin
  have key : ∀ (l : List Oper) (k : Nat), opsAll (fun i o => ∀ x W, C W → if wantV ds (fun j => if j = i then x else vs j) o = true then (∀ b : Act, b.eval = envV ds (fun j => if j = i then x else vs j) a → ∀ K : Act → World → Prop, (∀ w', C w' → K (b.put o.dst (vs i)) w') → o.wpIn F n P b W K Q) else vs i = undef) l k →
      opsAll (fun i o => ∀ x W, C W → ∀ K : Act → World → Prop, (∀ w', C w' → K ((putD (fun j => if j = i then x else vs j) ds 0 a).put o.dst (vs i)) w') → if Region.wanted o (yielded ops (putD (fun j => if j = i then x else vs j) ds 0 a).tmps) then o.wpIn F n P (putD (fun j => if j = i then x else vs j) ds 0 a) W K Q else (∀ f, o.about P W (putD (fun j => if j = i then x else vs j) ds 0 a).eval = some f → F.fn f) ∧ K ((putD (fun j => if j = i then x else vs j) ds 0 a).put o.dst undef) W) l k := by
    intro l
    induction l with
    | nil => intro k _; trivial
    | cons o l ih =>
      intro k h
      refine ⟨fun x W hC K hK => ?_, ih (k + 1) h.2⟩
      have h1 := h.1 x W hC
      rw [want_putD hds hok]
      by_cases hw : wantV ds (fun j => if j = k then x else vs j) o = true
      · rw [if_pos hw] at h1 ⊢
        exact h1 _ (eval_putD hok) K hK
      · rw [if_neg hw] at h1 ⊢
        have := hK W hC
        rw [h1] at this
        exact ⟨fun f _ => hfn f, this⟩
  exact key _ _ hop
theorem e_yes {c : Bool} {p q : Prop} (hc : c = true) (hp : p) : if c = true then p else q := by rw [if_pos hc]; exact hp
theorem e_no {c : Bool} {p q : Prop} (hc : c = false) (hq : q) : if c = true then p else q := by rw [if_neg (by rw [hc]; decide)]; exact hq
theorem opE_li {o : Oper} {b : Act} {ev : Operand → Value} {w : World} {K : Act → World → Prop} (hro : F.round = none) (hb : b.eval = ev) (h : o.about P w ev = none ∧ liUpon w (fun v => K (b.put o.dst v) w) ((execOp ev o).run P w)) : o.wpIn F n P b w K Q := op_li hro (by rw [hb]; exact h)
theorem opE_call {o : Oper} {b : Act} {ev : Operand → Value} {w : World} {K : Act → World → Prop} (hro : F.round = none) (hb : b.eval = ev) (hfn : ∀ f, F.fn f) (hdep : F.depth.isSome = true → 1 ≤ n) (f : FuncId) (args : Array Value)
    (hr : (execOp ev o).run P w = .ok (.enter f args) w) (h : CallsIn F (n - 1) P f args w fun e w' => ∃ v, e = .returned v ∧ K (b.put o.dst v) w') : o.wpIn F n P b w K Q := by
  unfold Oper.wpIn
  refine ⟨fun f _ => hfn f, ?_⟩
  rw [hro, Oper.semAt_none, hb, hr]
  refine ⟨hdep, CallsIn.mono h fun e w' he => ?_⟩
  obtain ⟨v, rfl, hk⟩ := he
  exact hk

/-! The same, the frame ahead of the region known at a few slots only. -/
def lookB : List (Tmp × Value) → (Tmp → Value) → Tmp → Value
  | [], e, t => e t
  | p :: r, e, t => if p.1 = t then p.2 else lookB r e t
def baseOk (a : Act) : List (Tmp × Value) → Prop
  | [] => True
  | p :: r => a.tmps.getD p.1 undef = p.2 ∧ baseOk a r
theorem lookB_eq {a : Act} : ∀ {l : List (Tmp × Value)}, baseOk a l → lookB l (fun t => a.tmps.getD t undef) = fun t => a.tmps.getD t undef
  | [], _ => rfl
  | p :: r, h => by
    funext t
    simp only [lookB]
    split
    · rename_i e
      rw [← e]; exact h.1.symm
    · rw [lookB_eq h.2]
def envB (ds : List (Option Tmp)) (f : Nat → Value) (l : List (Tmp × Value)) (e : Tmp → Value) : Operand → Value
  | .tmp t => lookV ds 0 f (lookB l e) t
  | .const v => v
  | .global g => .pointer (some ⟨g, 0, none⟩)
  | .func f => .func (.func f) #[] #[]
theorem envB_eq {ds : List (Option Tmp)} {f : Nat → Value} {l : List (Tmp × Value)} {a : Act} (h : baseOk a l) : envV ds f a = envB ds f l (fun t => a.tmps.getD t undef) := by
  funext x
  cases x with
  | tmp t => simp only [envV, envB, lookB_eq h]
  | const v => rfl
  | global g => rfl
  | func g => rfl
theorem opsAll_mono {f g : Nat → Oper → Prop} (h : ∀ i o, f i o → g i o) : ∀ (l : List Oper) (k : Nat), opsAll f l k → opsAll g l k
  | [], _, _ => trivial
  | o :: r, k, hh => ⟨h k o hh.1, opsAll_mono h r (k + 1) hh.2⟩
/-- **The values are known ahead; each operation sees the frame by look-up, and of the frame ahead of the region the named slots.** -/
theorem wpIn_region_valsB {id : Nat} {a : Act} {w : World} (ds : List (Option Tmp)) (vs : Nat → Value) (base : List (Tmp × Value)) (C : World → Prop) (hro : F.round = none) (hm : P.follows .mixedOrders = true) (hfn : ∀ f, F.fn f)
    (hchk : chkH ops = true) (hds : ops.toList.map (·.dst) = ds) (hok : okD ds a.tmps.size = true) (hbase : baseOk a base) (hQ : ∀ c (d : Option Tmp) (v : Value) a w, Q (.panic c) (a.put d v) w → Q (.panic c) a w)
    (h0 : C w.drew) (hop : opsAll (fun i o => ∀ x W, C W → if wantV ds (fun j => if j = i then x else vs j) o = true then (∀ (b : Act) (e : Tmp → Value), b.eval = envB ds (fun j => if j = i then x else vs j) base e → ∀ K : Act → World → Prop, (∀ w', C w' → K (b.put o.dst (vs i)) w') → o.wpIn F n P b W K Q) else vs i = undef) ops.toList 0)
    (hfin : ∀ W, C W → Q .normal (putD vs ds 0 a) W) : (Code.region id ops true).wpIn F n P Q a w := by
  refine wpIn_region_valsE ds vs C hro hm hfn hchk hds hok hQ h0 (opsAll_mono (fun i o h x W hC => ?_) _ _ hop) hfin
  have h1 := h x W hC
  by_cases hw : wantV ds (fun j => if j = i then x else vs j) o = true
  · rw [if_pos hw] at h1 ⊢
    exact fun b hb => h1 b _ (hb.trans (envB_eq hbase))
  · rw [if_neg hw] at h1 ⊢
    exact h1
end
end Go.Proofs.Ytfebhofihioaoaa
