/- The plain law of the loads: more persons, more distance. -/
import Derived.Test.YtilmlgngnbokfaaW
namespace Go.Proofs.Ytilmlgngnbokfaa
set_option linter.unusedVariables false
set_option linter.unusedSimpArgs false

/-- The greatest sum of at most k elements. -/
def bs : Nat → List Int → Int
  | _, [] => 0
  | 0, _ :: _ => 0
  | k + 1, a :: l => max (a + bs k l) (bs (k + 1) l)
theorem bs_nil (k : Nat) : bs k [] = 0 := by cases k <;> rfl
theorem bs_zero (l : List Int) : bs 0 l = 0 := by cases l <;> rfl
theorem bs_cons (k : Nat) (a : Int) (l : List Int) : bs (k + 1) (a :: l) = max (a + bs k l) (bs (k + 1) l) := rfl
theorem bs_nonneg : ∀ (k : Nat) (l : List Int), 0 ≤ bs k l
  | k, [] => by rw [bs_nil]; omega
  | 0, a :: l => by rw [bs_zero]; omega
  | k + 1, a :: l => by have := bs_nonneg (k + 1) l; rw [bs_cons]; omega
theorem bs_skip (k : Nat) (a : Int) (l : List Int) : bs k l ≤ bs k (a :: l) := by
  cases k with
  | zero => rw [bs_zero, bs_zero]; omega
  | succ k => rw [bs_cons]; omega
theorem bs_succ : ∀ (k : Nat) (l : List Int), bs k l ≤ bs (k + 1) l
  | k, [] => by rw [bs_nil, bs_nil]; omega
  | 0, a :: l => by rw [bs_zero]; exact bs_nonneg _ _
  | k + 1, a :: l => by
    have h1 := bs_succ k l
    have h2 := bs_succ (k + 1) l
    rw [bs_cons, bs_cons]
    omega
theorem bs_mono {k m : Nat} (h : k ≤ m) (l : List Int) : bs k l ≤ bs m l := by
  induction h with
  | refl => omega
  | step _ ih => exact Int.le_trans ih (bs_succ _ _)
theorem bs_perm {l m : List Int} (h : l.Perm m) : ∀ k, bs k l = bs k m := by
  induction h with
  | nil => exact fun _ => rfl
  | cons a _ ih =>
    intro k
    cases k with
    | zero => rw [bs_zero, bs_zero]
    | succ k => rw [bs_cons, bs_cons, ih, ih]
  | swap a b l =>
    intro k
    cases k with
    | zero => rw [bs_zero, bs_zero]
    | succ k =>
      cases k with
      | zero => simp only [bs_cons, bs_zero]; omega
      | succ k => simp only [bs_cons]; omega
  | trans _ _ h1 h2 => exact fun k => (h1 k).trans (h2 k)
theorem bs_step {a : Int} (ha : 0 ≤ a) : ∀ (l : List Int) (k : Nat), (∀ x ∈ l, x ≤ a) → bs (k + 1) l ≤ a + bs k l
  | [], k, _ => by rw [bs_nil, bs_nil]; omega
  | b :: l, 0, h => by
    have h1 := bs_step ha l 0 (fun x hx => h x (by simp [hx]))
    have h2 := h b (by simp)
    rw [bs_zero] at *
    rw [bs_cons, bs_zero]
    omega
  | b :: l, k + 1, h => by
    have h1 := bs_step ha l k (fun x hx => h x (by simp [hx]))
    have h2 := bs_step ha l (k + 1) (fun x hx => h x (by simp [hx]))
    rw [bs_cons, bs_cons]
    omega
theorem bs_desc : ∀ (l : List Int) (k : Nat), l.Pairwise (fun a b => b ≤ a) → (∀ x ∈ l, 0 ≤ x) → bs k l = (l.take k).sum
  | [], k, _, _ => by simp [bs_nil]
  | a :: l, 0, _, _ => by simp [bs_zero]
  | a :: l, k + 1, h, h0 => by
    obtain ⟨h1, h2⟩ := List.pairwise_cons.1 h
    have e := bs_desc l k h2 (fun x hx => h0 x (by simp [hx]))
    have s := bs_step (h0 a (by simp)) l k h1
    rw [bs_cons, List.take_succ_cons, List.sum_cons, ← e]
    omega
theorem topS_bs (k : Nat) (l : List Int) (h : ∀ x ∈ l, 0 ≤ x) : topS k l = bs k l := by
  rw [← bs_perm (List.mergeSort_perm l geI) k]
  exact (bs_desc _ k (sort_desc l) (fun x hx => h x ((List.mergeSort_perm l geI).mem_iff.1 hx))).symm

/-- Each element of the first has a greater one of its own in the second. -/
inductive Dm : List Int → List Int → Prop
  | nil : Dm [] []
  | cons {a b : Int} {l m : List Int} (h : a ≤ b) : Dm l m → Dm (a :: l) (b :: m)
  | skip {b : Int} {l m : List Int} : Dm l m → Dm l (b :: m)
theorem Dm.none : ∀ m : List Int, Dm [] m
  | [] => .nil
  | _ :: m => .skip (Dm.none m)
theorem Dm.refl : ∀ l : List Int, Dm l l
  | [] => .nil
  | _ :: l => .cons (Int.le_refl _) (Dm.refl l)
theorem Dm.append {l m l2 m2 : List Int} (h : Dm l m) (h2 : Dm l2 m2) : Dm (l ++ l2) (m ++ m2) := by
  induction h with
  | nil => exact h2
  | cons h _ ih => exact .cons h ih
  | skip _ ih => exact .skip ih
theorem Dm.bs {l m : List Int} (h : Dm l m) : ∀ k, bs k l ≤ bs k m := by
  induction h with
  | nil => exact fun _ => Int.le_refl _
  | cons h _ ih =>
    intro k
    cases k with
    | zero => rw [bs_zero, bs_zero]; omega
    | succ k => have h1 := ih k; have h2 := ih (k + 1); rw [bs_cons, bs_cons]; omega
  | skip _ ih => exact fun k => Int.le_trans (ih k) (bs_skip k _ _)

theorem ups_dm {f : Int → Int} (hf : ∀ x y, x ≤ y → f y ≤ f x) {s s' B : Int} (hs : 1 ≤ s) (hss : s ≤ s') : ∀ (n : Nat) (x x' : Int), (B - x').toNat ≤ n → x ≤ x' → Dm ((upsF s' B x').map f) ((upsF s B x).map f)
  | 0, x, x', hn, _ => by rw [upsF_nil (show ¬ x' < B by omega)]; exact .none _
  | n + 1, x, x', hn, hx => by
    by_cases h : x' < B
    · rw [upsF_cons (by omega) h, upsF_cons hs (show x < B by omega)]
      exact .cons (hf _ _ hx) (ups_dm hf hs hss n (x + s) (x' + s') (by omega) (by omega))
    · rw [upsF_nil h]; exact .none _
theorem ups_mono {f : Int → Int} (hf : ∀ x y, x ≤ y → f y ≤ f x) {s s' B : Int} (hs : 1 ≤ s) (hss : s ≤ s') {x x' : Int} (hx : x ≤ x') : Dm ((upsF s' B x').map f) ((upsF s B x).map f) :=
  ups_dm hf hs hss _ x x' (Nat.le_refl _) hx

section
variable {l r wt : Int}
/-- A person to the left, and one to the right. -/
def leftV (l r wt x : Int) : Int := wt * (max 1 l - x) * (comU l r / max 1 l)
def rightV (l r wt x : Int) : Int := wt * (r - x) * (comU l r / r)
theorem vals_eq (l r wt ap off : Int) : valsU l r wt ap off = (upsF ap (max 1 l) off).map (leftV l r wt) ++ (upsF ap r (ap - off)).map (rightV l r wt) := by
  simp [valsU, standR, Function.comp_def]
  rfl
theorem leftV_mono (hl : 0 ≤ l ∧ l ≤ 200) (hr : 0 ≤ r ∧ r ≤ 200) (hwt : 0 ≤ wt) : ∀ x y, x ≤ y → leftV l r wt y ≤ leftV l r wt x := fun x y h => by
  have hC := comU_bd hl hr
  exact Int.mul_le_mul_of_nonneg_right (Int.mul_le_mul_of_nonneg_left (by omega) hwt) (Int.ediv_nonneg (by omega) (by omega))
theorem rightV_mono (hl : 0 ≤ l ∧ l ≤ 200) (hr : 0 ≤ r ∧ r ≤ 200) (hwt : 0 ≤ wt) : ∀ x y, x ≤ y → rightV l r wt y ≤ rightV l r wt x := fun x y h => by
  have hC := comU_bd hl hr
  exact Int.mul_le_mul_of_nonneg_right (Int.mul_le_mul_of_nonneg_left (by omega) hwt) (Int.ediv_nonneg (by omega) (by omega))

variable {own ap pe : Int}
theorem best_le : ∀ (k : Nat) (v : Int), 0 ≤ v → (∀ off : Nat, off < k → topS pe.toNat (valsU l r wt ap off) ≤ v) → bestU l r wt ap pe k ≤ v
  | 0, v, h, _ => h
  | k + 1, v, h, hv => by
    have h1 := best_le k v h (fun off ho => hv off (by omega))
    have h2 := hv k (by omega)
    unfold bestU
    omega
theorem le_best : ∀ (k off : Nat), off < k → topS pe.toNat (valsU l r wt ap off) ≤ bestU l r wt ap pe k
  | 0, off, h => by omega
  | k + 1, off, h => by
    unfold bestU
    by_cases e : off = k
    · subst e; omega
    · have := le_best k off (by omega)
      omega
theorem best_nonneg : ∀ k : Nat, 0 ≤ bestU l r wt ap pe k
  | 0 => Int.le_refl _
  | k + 1 => by have := best_nonneg k; unfold bestU; omega

theorem vals_nonneg (hl : 0 ≤ l ∧ l ≤ 200) (hr : 0 ≤ r ∧ r ≤ 200) {off : Int} (hoff : 0 ≤ off ∧ off < ap) (hwt : 0 ≤ wt ∧ wt ≤ 500) (hap : 1 ≤ ap ∧ ap ≤ 400) : ∀ v ∈ valsU l r wt ap off, 0 ≤ v :=
  fun v hv => (vals_bd hl hr hoff hwt hap v hv).1

/-- The arrangements with more distance are no greater. -/
theorem vals_ap (hl : 0 ≤ l ∧ l ≤ 200) (hr : 0 ≤ r ∧ r ≤ 200) (hwt : 0 ≤ wt ∧ wt ≤ 500) {ap' off off' : Int} (h1 : 1 ≤ ap) (h2 : ap ≤ ap') (h3 : off ≤ off') (h4 : ap - off ≤ ap' - off') :
    Dm (valsU l r wt ap' off') (valsU l r wt ap off) := by
  rw [vals_eq, vals_eq]
  exact (ups_mono (leftV_mono hl hr hwt.1) h1 h2 h3).append (ups_mono (rightV_mono hl hr hwt.1) h1 h2 h4)

theorem best_ap (hl : 0 ≤ l ∧ l ≤ 200) (hr : 0 ≤ r ∧ r ≤ 200) (hwt : 0 ≤ wt ∧ wt ≤ 500) {ap' : Int} (hap : 1 ≤ ap) (h2 : ap ≤ ap') (hap' : ap' ≤ 400) :
    bestU l r wt ap' pe (min ap' (max l r + 1)).toNat ≤ bestU l r wt ap pe (min ap (max l r + 1)).toNat := by
  refine best_le _ _ (best_nonneg _) (fun off' ho => ?_)
  have hd := vals_ap (ap := ap) (ap' := ap') (off := max 0 ((off' : Int) - (ap' - ap))) (off' := off') hl hr hwt hap h2 (by omega) (by omega)
  have h3 : (max 0 ((off' : Int) - (ap' - ap))) = (((max 0 ((off' : Int) - (ap' - ap))).toNat : Nat) : Int) := by omega
  rw [topS_bs _ _ (vals_nonneg hl hr ⟨by omega, by omega⟩ hwt ⟨by omega, by omega⟩)]
  refine Int.le_trans (hd.bs _) ?_
  rw [← topS_bs _ _ (vals_nonneg hl hr ⟨by omega, by omega⟩ hwt ⟨by omega, by omega⟩), h3]
  exact le_best _ _ (by omega)

theorem best_pe (hl : 0 ≤ l ∧ l ≤ 200) (hr : 0 ≤ r ∧ r ≤ 200) (hwt : 0 ≤ wt ∧ wt ≤ 500) {pe' : Int} (hap : 1 ≤ ap ∧ ap ≤ 400) (h2 : pe ≤ pe') :
    bestU l r wt ap pe (min ap (max l r + 1)).toNat ≤ bestU l r wt ap pe' (min ap (max l r + 1)).toNat := by
  refine best_le _ _ (best_nonneg _) (fun off ho => ?_)
  have h := vals_nonneg (off := (off : Int)) hl hr ⟨by omega, by omega⟩ hwt hap
  have := le_best (pe := pe') (l := l) (r := r) (wt := wt) (ap := ap) _ off ho
  rw [topS_bs _ _ h] at *
  exact Int.le_trans (bs_mono (by omega) _) this

/-- Farther than the longer beam there is nobody who counts. -/
theorem best_all (hl : 0 ≤ l ∧ l ≤ 200) (hr : 0 ≤ r ∧ r ≤ 200) (hwt : 0 ≤ wt ∧ wt ≤ 500) (hap : 1 ≤ ap ∧ ap ≤ 400) :
    bestU l r wt ap pe ap.toNat = bestU l r wt ap pe (min ap (max l r + 1)).toNat := by
  have hcd := comU_bd hl hr
  refine Int.le_antisymm (best_le _ _ (best_nonneg _) fun off ho => ?_) (best_le _ _ (best_nonneg _) fun off ho => le_best _ _ (by omega))
  by_cases h : off < (min ap (max l r + 1)).toNat
  · exact le_best _ _ h
  · have h0 := le_best (pe := pe) (l := l) (r := r) (wt := wt) (ap := ap) (min ap (max l r + 1)).toNat 0 (by omega)
    have n1 := vals_nonneg (off := (off : Int)) hl hr ⟨by omega, by omega⟩ hwt hap
    have n2 := vals_nonneg (off := ((0 : Nat) : Int)) hl hr ⟨by omega, by omega⟩ hwt hap
    refine Int.le_trans ?_ h0
    rw [topS_bs _ _ n1, topS_bs _ _ n2]
    refine Dm.bs ?_ _
    rw [vals_eq, vals_eq, upsF_nil (show ¬ (off : Int) < max 1 l by omega), upsF_cons hap.1 (show ((0 : Nat) : Int) < max 1 l by omega)]
    simp only [List.map_nil, List.nil_append, List.map_cons, List.cons_append]
    by_cases h2 : ap - (off : Int) < r
    · rw [upsF_cons hap.1 h2, List.map_cons]
      refine .cons ?_ ?_
      · have e1 : leftV l r wt ((0 : Nat) : Int) = wt * comU l r := by
          have : max 1 l * (comU l r / max 1 l) = comU l r := Int.mul_ediv_cancel' ⟨2 * max 1 r, by unfold comU; rw [Int.mul_comm 2 (max 1 l), Int.mul_assoc]⟩
          unfold leftV
          rw [show max 1 l - ((0 : Nat) : Int) = max 1 l by simp, Int.mul_assoc, this]
        have e2 : r * (comU l r / r) = comU l r := Int.mul_ediv_cancel' ⟨2 * max 1 l, by unfold comU; rw [show max 1 r = r by omega, Int.mul_comm]⟩
        rw [e1]
        unfold rightV
        rw [Int.mul_assoc]
        refine Int.mul_le_mul_of_nonneg_left ?_ hwt.1
        calc (r - (ap - (off : Int))) * (comU l r / r) ≤ r * (comU l r / r) := Int.mul_le_mul_of_nonneg_right (by omega) (Int.ediv_nonneg (by omega) (by omega))
          _ = comU l r := e2
      · have h3 : Dm ((upsF ap r (ap - (off : Int) + ap)).map (rightV l r wt)) ((upsF ap r (ap - ((0 : Nat) : Int))).map (rightV l r wt)) := ups_mono (rightV_mono hl hr hwt.1) hap.1 (Int.le_refl _) (by omega)
        exact (Dm.none ((upsF ap (max 1 l) (((0 : Nat) : Int) + ap)).map (leftV l r wt))).append h3
    · rw [upsF_nil h2]
      exact .none _

theorem presN_pe {d : Deck} {c n m : Int} (h : d.ok c) (hnm : n ≤ m) (i : Nat) : presN (d.pe n) i ≤ presN (d.pe m) i := by
  obtain ⟨hl, hr⟩ := beam_bd h i
  obtain ⟨o1, o2, o3, _, _, o4, o5, o6, o7⟩ := h
  have := best_pe (pe := n) (pe' := m) hl hr o5 o6 hnm
  show bestU _ _ _ _ _ _ + halfU _ _ _ ≤ bestU _ _ _ _ _ _ + halfU _ _ _
  simp only [Deck.pe] at *
  omega
theorem presN_ap {d : Deck} {c n m : Int} (h : d.ok c) (hn : 1 ≤ n) (hnm : n ≤ m) (hm : m ≤ 400) (i : Nat) : presN (d.ap m) i ≤ presN (d.ap n) i := by
  obtain ⟨hl, hr⟩ := beam_bd h i
  obtain ⟨o1, o2, o3, _, _, o4, o5, o6, o7⟩ := h
  have := best_ap (pe := d.persons) hl hr o5 hn hnm hm
  show bestU _ _ _ _ _ _ + halfU _ _ _ ≤ bestU _ _ _ _ _ _ + halfU _ _ _
  simp only [Deck.ap] at *
  omega
end

theorem idxI_nonneg {α : Type} {p : α → Bool} {xs : List α} : 0 ≤ idxI p xs ↔ ∃ x ∈ xs, p x = true := by
  have h := idxI_any p xs
  constructor
  · intro h0
    have : xs.any p = true := by rw [← h]; simpa using h0
    simpa using this
  · intro h0
    have : xs.any p = true := by simpa using h0
    rw [this] at h
    simpa using h
theorem idxI_mono {α : Type} {p q : α → Bool} {xs : List α} (h : ∀ x ∈ xs, p x = true → q x = true) (h0 : 0 ≤ idxI p xs) : 0 ≤ idxI q xs := by
  rw [idxI_nonneg] at *
  obtain ⟨x, hx, hp⟩ := h0
  exact ⟨x, hx, h x hx hp⟩

/-- More persons: it does not begin to bear. -/
theorem bears_pe {d : Deck} {c n m firm : Int} {cr : List (Int × Int)} (h : d.ok c) (hnm : n ≤ m) (hb : bearsB (d.pe m) cr firm = true) : bearsB (d.pe n) cr firm = true := by
  unfold bearsB at *
  simp only [decide_eq_true_eq] at *
  by_cases h0 : brkI (d.pe n) cr firm < 0
  · exact h0
  · exfalso
    have := idxI_mono (q := brk (d.pe m) cr firm) (p := brk (d.pe n) cr firm) (xs := List.range d.posts.length) (fun i _ hi => by
      unfold brk at *
      simp only [decide_eq_true_eq] at *
      have h1 := presN_pe h hnm i
      have h2 : iceOf (d.pe m) cr firm i * presC (d.pe m) i = iceOf (d.pe n) cr firm i * presC (d.pe n) i := rfl
      omega) (by unfold brkI at h0; exact Int.not_lt.1 h0)
    unfold brkI at hb
    simp only [Deck.pe] at hb this
    omega
theorem bears_ap {d : Deck} {c n m firm : Int} {cr : List (Int × Int)} (h : d.ok c) (hn : 1 ≤ n) (hnm : n ≤ m) (hm : m ≤ 400) (hb : bearsB (d.ap n) cr firm = true) : bearsB (d.ap m) cr firm = true := by
  unfold bearsB at *
  simp only [decide_eq_true_eq] at *
  by_cases h0 : brkI (d.ap m) cr firm < 0
  · exact h0
  · exfalso
    have := idxI_mono (q := brk (d.ap n) cr firm) (p := brk (d.ap m) cr firm) (xs := List.range d.posts.length) (fun i _ hi => by
      unfold brk at *
      simp only [decide_eq_true_eq] at *
      have h1 := presN_ap h hn hnm hm i
      have h2 : iceOf (d.ap m) cr firm i * presC (d.ap m) i = iceOf (d.ap n) cr firm i * presC (d.ap n) i := rfl
      omega) (by unfold brkI at h0; exact Int.not_lt.1 h0)
    unfold brkI at hb
    simp only [Deck.ap] at hb this
    omega
end Go.Proofs.Ytilmlgngnbokfaa
