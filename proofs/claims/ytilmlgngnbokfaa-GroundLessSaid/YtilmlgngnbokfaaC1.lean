/- Crowds: plain. -/
import Derived.Test.YtilmlgngnbokfaaX4
import Derived.Test.YtilmlgngnbokfaaQ
namespace Go.Proofs.Ytilmlgngnbokfaa
set_option linter.unusedVariables false
set_option linter.unusedSimpArgs false
open Go

/-- Far enough apart, rising. -/
def Gaps (ap : Int) (xs : List Int) : Prop := xs.Pairwise (fun a b => a + ap ≤ b)

theorem dm_gaps {f : Int → Int} (hf : ∀ x y, x ≤ y → f y ≤ f x) {ap B : Int} (hap : 1 ≤ ap) : ∀ (ys : List Int) (x0 : Int), Gaps ap ys → (∀ y ∈ ys, x0 ≤ y) → Dm ((ys.filter fun y => decide (y < B)).map f) ((upsF ap B x0).map f)
  | [], x0, _, _ => Dm.none _
  | y :: ys, x0, hg, h0 => by
    obtain ⟨h1, h2⟩ := List.pairwise_cons.1 hg
    have hy := h0 y (by simp)
    by_cases hb : y < B
    · rw [List.filter_cons_of_pos (by simpa using hb), upsF_cons hap (show x0 < B by omega), List.map_cons, List.map_cons]
      exact .cons (hf _ _ hy) (dm_gaps hf hap ys (x0 + ap) h2 (fun z hz => by have := h1 z hz; omega))
    · rw [List.filter_eq_nil_iff.2 (fun z hz => by
        rcases List.mem_cons.1 hz with rfl | hz
        · simpa using hb
        · have := h1 z hz; simp; omega)]
      exact Dm.none _
theorem sum_filter {p : Int → Bool} {f : Int → Int} : ∀ ys : List Int, (ys.map fun y => if p y = true then f y else 0).sum = ((ys.filter p).map f).sum
  | [] => rfl
  | y :: ys => by
    cases h : p y with
    | true => simp [h, sum_filter ys]
    | false => simp [h, sum_filter ys]
theorem sum_bs : ∀ (l : List Int) (k : Nat), (∀ x ∈ l, 0 ≤ x) → l.length ≤ k → l.sum ≤ bs k l
  | [], k, _, _ => by rw [bs_nil]; simp
  | a :: l, 0, _, h => by simp at h
  | a :: l, k + 1, h0, h => by
    rw [bs_cons]
    have := sum_bs l k (fun x hx => h0 x (by simp [hx])) (by simpa using h)
    simp only [List.sum_cons]
    omega
theorem sum_perm {l m : List Int} (h : l.Perm m) : l.sum = m.sum := by
  induction h with
  | nil => rfl
  | cons _ _ ih => simp [ih]
  | swap _ _ _ => simp; omega
  | trans _ _ h1 h2 => exact h1.trans h2

theorem share_at {l r wt : Int} (hl : 0 ≤ l ∧ l ≤ 200) (hr : 0 ≤ r ∧ r ≤ 200) (y : Int) : shareU l r wt y =
    (if decide (y ≤ 0) = true then (if decide (-y < max 1 l) = true then leftV l r wt (-y) else 0) else 0) + (if decide (0 < y) = true then (if decide (y < r) = true then rightV l r wt y else 0) else 0) := by
  simp only [decide_eq_true_eq]
  by_cases h : y ≤ 0
  · rw [if_pos h, if_neg (show ¬ 0 < y by omega)]
    by_cases h2 : -y < max 1 l
    · rw [if_pos h2]
      have := share_left (l := l) (r := r) (wt := wt) hl.1 (show 0 ≤ -y by omega) h2
      rw [Int.neg_neg] at this
      omega
    · rw [if_neg h2]
      unfold shareU
      rw [if_neg (by omega), if_neg (by omega), if_neg (by omega)]
      rfl
  · rw [if_neg h, if_pos (show 0 < y by omega)]
    by_cases h2 : y < r
    · rw [if_pos h2, share_right (by omega) h2]; omega
    · rw [if_neg h2]
      unfold shareU
      rw [if_neg (by omega), if_neg (by omega), if_neg (by omega)]
      rfl

theorem Gaps.filter {ap : Int} {xs : List Int} (h : Gaps ap xs) (p : Int → Bool) : Gaps ap (xs.filter p) := List.Pairwise.filter p h
theorem Gaps.neg {ap : Int} {xs : List Int} (h : Gaps ap xs) : Gaps ap ((xs.map fun x => -x).reverse) := by
  unfold Gaps
  rw [List.pairwise_reverse, List.pairwise_map]
  exact h.imp (fun h => by omega)
theorem Gaps.shift {ap : Int} {xs : List Int} (h : Gaps ap xs) (c : Int) : Gaps ap (xs.map fun x => x - c) := by
  unfold Gaps
  rw [List.pairwise_map]
  exact h.imp (fun h => by omega)
theorem sum_add (f g : Int → Int) : ∀ ys : List Int, (ys.map fun y => f y + g y).sum = (ys.map f).sum + (ys.map g).sum
  | [] => rfl
  | y :: ys => by simp [sum_add f g ys]; omega

/-- However the persons of a crowd stand. -/
theorem crowd_le {l r wt ap pe : Int} (hl : 0 ≤ l ∧ l ≤ 200) (hr : 0 ≤ r ∧ r ≤ 200) (hwt : 0 ≤ wt ∧ wt ≤ 500) (hap : 1 ≤ ap ∧ ap ≤ 400) (ys : List Int) (hg : Gaps ap ys) (hn : (ys.length : Int) ≤ pe) :
    (ys.map (shareU l r wt)).sum ≤ bestU l r wt ap pe ap.toNat := by
  -- the two sides
  let L := (((ys.filter fun y => decide (y ≤ 0)).map fun y => -y).reverse.filter fun y => decide (y < max 1 l)).map (leftV l r wt)
  let R := ((ys.filter fun y => decide (0 < y)).filter fun y => decide (y < r)).map (rightV l r wt)
  have hsum : (ys.map (shareU l r wt)).sum = (L ++ R).sum := by
    have e1 : (ys.map (shareU l r wt)).sum = (ys.map fun y => (if decide (y ≤ 0) = true then (if decide (-y < max 1 l) = true then leftV l r wt (-y) else 0) else 0)).sum + (ys.map fun y => (if decide (0 < y) = true then (if decide (y < r) = true then rightV l r wt y else 0) else 0)).sum := by
      rw [← sum_add]
      congr 1
      exact List.map_congr_left fun y _ => share_at hl hr y
    rw [e1, sum_filter (p := fun y => decide (y ≤ 0)), sum_filter (p := fun y => decide (0 < y)), List.sum_append]
    congr 1
    · have e2 : ((ys.filter fun y => decide (y ≤ 0)).map fun y => if decide (-y < max 1 l) = true then leftV l r wt (-y) else 0) = (((ys.filter fun y => decide (y ≤ 0)).map fun y => -y).map fun y => if decide (y < max 1 l) = true then leftV l r wt y else 0) := by
        rw [List.map_map]; rfl
      rw [e2, sum_filter (p := fun y => decide (y < max 1 l))]
      refine sum_perm (List.Perm.map _ (List.Perm.filter _ (List.reverse_perm _).symm))
    · exact sum_filter (p := fun y => decide (y < r)) _
  have hlen : ((L ++ R).length : Int) ≤ pe := by
    have h1 : L.length ≤ (ys.filter fun y => decide (y ≤ 0)).length := by
      simp only [L, List.length_map]
      refine Nat.le_trans (List.length_filter_le _ _) (by simp)
    have h2 : R.length ≤ (ys.filter fun y => decide (0 < y)).length := by
      simp only [R, List.length_map]
      exact List.length_filter_le _ _
    have h3 : (ys.filter fun y => decide (y ≤ 0)).length + (ys.filter fun y => decide (0 < y)).length = ys.length := by
      clear hg hn L R h1 h2 hsum
      induction ys with
      | nil => rfl
      | cons y ys ih =>
        by_cases h : y ≤ 0
        · rw [List.filter_cons_of_pos (by simpa using h), List.filter_cons_of_neg (by simp; omega)]
          simp only [List.length_cons]; omega
        · rw [List.filter_cons_of_neg (by simpa using h), List.filter_cons_of_pos (by simp; omega)]
          simp only [List.length_cons]; omega
    rw [List.length_append]
    omega
  have hgl := (hg.filter fun y => decide (y ≤ 0)).neg
  have hgr := hg.filter fun y => decide (0 < y)
  -- where the next one to the left stands
  have hoff : ∃ off : Nat, (off : Int) < ap ∧ (∀ y ∈ ((ys.filter fun y => decide (y ≤ 0)).map fun y => -y).reverse, (off : Int) ≤ y) ∧ (∀ y ∈ ys.filter fun y => decide (0 < y), ap - (off : Int) ≤ y) := by
    by_cases hex : ∃ y ∈ ys, y ≤ 0 ∧ -y < ap
    · obtain ⟨y, hy, h0, h1⟩ := hex
      have hmem : ∀ z ∈ ys, z = y ∨ z + ap ≤ y ∨ y + ap ≤ z := by
        clear hsum hlen hgl hgr L R hn
        induction ys with
        | nil => intro z hz; cases hz
        | cons a ys ih =>
          obtain ⟨g1, g2⟩ := List.pairwise_cons.1 hg
          intro z hz
          rcases List.mem_cons.1 hy with rfl | hy'
          · rcases List.mem_cons.1 hz with rfl | hz'
            · exact .inl rfl
            · exact .inr (.inr (g1 z hz'))
          · rcases List.mem_cons.1 hz with rfl | hz'
            · exact .inr (.inl (g1 y hy'))
            · exact ih g2 hy' z hz'
      refine ⟨(-y).toNat, by omega, fun z hz => ?_, fun z hz => ?_⟩
      · rw [List.mem_reverse, List.mem_map] at hz
        obtain ⟨u, hu, rfl⟩ := hz
        obtain ⟨hu1, hu2⟩ := List.mem_filter.1 hu
        have hu3 : u ≤ 0 := by simpa using hu2
        rcases hmem u hu1 with rfl | h | h <;> omega
      · obtain ⟨hu1, hu2⟩ := List.mem_filter.1 hz
        have hu3 : 0 < z := by simpa using hu2
        rcases hmem z hu1 with rfl | h | h <;> omega
    · refine ⟨(ap - 1).toNat, by omega, fun z hz => ?_, fun z hz => ?_⟩
      · rw [List.mem_reverse, List.mem_map] at hz
        obtain ⟨u, hu, rfl⟩ := hz
        obtain ⟨hu1, hu2⟩ := List.mem_filter.1 hu
        have hu3 : u ≤ 0 := by simpa using hu2
        have : ¬ -u < ap := fun h => hex ⟨u, hu1, hu3, h⟩
        omega
      · obtain ⟨hu1, hu2⟩ := List.mem_filter.1 hz
        have hu3 : 0 < z := by simpa using hu2
        omega
  obtain ⟨off, ho, hL, hR⟩ := hoff
  have hdm : Dm (L ++ R) (valsU l r wt ap off) := by
    rw [vals_eq]
    exact (dm_gaps (leftV_mono hl hr hwt.1) hap.1 _ _ hgl hL).append (dm_gaps (rightV_mono hl hr hwt.1) hap.1 _ _ hgr hR)
  have hnn : ∀ x ∈ L ++ R, 0 ≤ x := by
    have hC := comU_bd hl hr
    intro x hx
    rcases List.mem_append.1 hx with hx | hx
    · obtain ⟨y, hy, rfl⟩ := List.mem_map.1 hx
      obtain ⟨_, h2⟩ := List.mem_filter.1 hy
      have h3 : y < max 1 l := by simpa using h2
      exact Int.mul_nonneg (Int.mul_nonneg hwt.1 (by omega)) (Int.ediv_nonneg (by omega) (by omega))
    · obtain ⟨y, hy, rfl⟩ := List.mem_map.1 hx
      obtain ⟨_, h2⟩ := List.mem_filter.1 hy
      have h3 : y < r := by simpa using h2
      exact Int.mul_nonneg (Int.mul_nonneg hwt.1 (by omega)) (Int.ediv_nonneg (by omega) (by omega))
  rw [hsum]
  refine Int.le_trans (sum_bs _ pe.toNat hnn (by omega)) (Int.le_trans (hdm.bs _) ?_)
  rw [← topS_bs _ _ (vals_nonneg hl hr ⟨by omega, ho⟩ hwt hap)]
  exact le_best _ _ (by omega)

theorem share_nonneg {l r wt : Int} (hl : 0 ≤ l ∧ l ≤ 200) (hr : 0 ≤ r ∧ r ≤ 200) (hwt : 0 ≤ wt ∧ wt ≤ 500) (y : Int) : 0 ≤ shareU l r wt y ∧ shareU l r wt y ≤ 500 * comU l r := by
  have hC := comU_bd hl hr
  unfold shareU
  split
  · exact ⟨Int.mul_nonneg hwt.1 (by omega), Int.mul_le_mul_of_nonneg_right hwt.2 (by omega)⟩
  · split
    · rename_i h1 h2
      have n1 := mul_bd hwt.1 hwt.2 (show 0 ≤ l + y by omega) (show l + y ≤ l by omega)
      refine ⟨Int.ediv_nonneg (Int.mul_nonneg n1.1 (by omega)) (by omega), ?_⟩
      refine Int.ediv_le_of_le_mul (by omega) ?_
      have := Int.mul_le_mul_of_nonneg_right n1.2 (show 0 ≤ comU l r by omega)
      rw [Int.mul_assoc 500, Int.mul_comm (comU l r), ← Int.mul_assoc]
      exact this
    · split
      · rename_i h1 h2 h3
        have n1 := mul_bd hwt.1 hwt.2 (show 0 ≤ r - y by omega) (show r - y ≤ r by omega)
        refine ⟨Int.ediv_nonneg (Int.mul_nonneg n1.1 (by omega)) (by omega), ?_⟩
        refine Int.ediv_le_of_le_mul (by omega) ?_
        have := Int.mul_le_mul_of_nonneg_right n1.2 (show 0 ≤ comU l r by omega)
        rw [Int.mul_assoc 500, Int.mul_comm (comU l r), ← Int.mul_assoc]
        exact this
      · omega
end Go.Proofs.Ytilmlgngnbokfaa
