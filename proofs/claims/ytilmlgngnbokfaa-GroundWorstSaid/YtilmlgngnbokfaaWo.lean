/- GroundWorst: the greatest burden, found place by place. -/
import Derived.Test.YtilmlgngnbokfaaC1
namespace Go.Proofs.Ytilmlgngnbokfaa
set_option linter.unusedVariables false
set_option linter.unusedSimpArgs false
open Go.RowKit

/-- Of the first places, with at most so many persons at distances of ap: the most that f comes to. -/
def best8 (f : Nat → Int) (ap : Nat) (n x : Nat) : Int :=
  match n with
  | 0 => 0
  | n + 1 => match x with
    | 0 => max 0 (f 0)
    | x + 1 => max (best8 f ap (n + 1) x) (f (x + 1) + if ap ≤ x + 1 then best8 f ap n (x + 1 - ap) else 0)
termination_by (n, x)

section
variable {f : Nat → Int} {ap : Nat}
theorem best8_zero (x : Nat) : best8 f ap 0 x = 0 := by unfold best8; rfl
theorem best8_first (n : Nat) : best8 f ap (n + 1) 0 = max 0 (f 0) := by rw [best8]
theorem best8_succ (n x : Nat) : best8 f ap (n + 1) (x + 1) = max (best8 f ap (n + 1) x) (f (x + 1) + if ap ≤ x + 1 then best8 f ap n (x + 1 - ap) else 0) := by rw [best8]
theorem best8_nonneg (hf : ∀ x, 0 ≤ f x) : ∀ n x, 0 ≤ best8 f ap n x
  | 0, x => by rw [best8_zero]; omega
  | n + 1, 0 => by rw [best8_first]; omega
  | n + 1, x + 1 => by have := best8_nonneg hf (n + 1) x; rw [best8_succ]; omega

/-- It is what some crowd comes to. -/
theorem best8_crowd (hf : ∀ x, 0 ≤ f x) (hap : 1 ≤ ap) : ∀ n x, ∃ ys : List Nat, ys.Pairwise (fun a b => a + ap ≤ b) ∧ ys.length ≤ n ∧ (∀ y ∈ ys, y ≤ x) ∧ best8 f ap n x = (ys.map f).sum
  | 0, x => ⟨[], by simp, by simp, by simp, by rw [best8_zero]; rfl⟩
  | n + 1, 0 => by
    rw [best8_first]
    exact ⟨[0], by simp, by simp, by simp, by have := hf 0; simp; omega⟩
  | n + 1, x + 1 => by
    rw [best8_succ]
    obtain ⟨ys, h1, h2, h3, h4⟩ := best8_crowd hf hap (n + 1) x
    by_cases hle : f (x + 1) + (if ap ≤ x + 1 then best8 f ap n (x + 1 - ap) else 0) ≤ best8 f ap (n + 1) x
    · exact ⟨ys, h1, h2, fun y hy => by have := h3 y hy; omega, by rw [← h4]; omega⟩
    · by_cases ha : ap ≤ x + 1
      · obtain ⟨zs, g1, g2, g3, g4⟩ := best8_crowd hf hap n (x + 1 - ap)
        rw [if_pos ha] at hle ⊢
        refine ⟨zs ++ [x + 1], ?_, by simp; omega, fun y hy => ?_, ?_⟩
        · rw [List.pairwise_append]
          exact ⟨g1, by simp, fun a h b hb => by simp at hb; have := g3 a h; omega⟩
        · rcases List.mem_append.1 hy with h | h
          · have := g3 y h; omega
          · simp at h; omega
        · simp only [List.map_append, List.sum_append, List.map_cons, List.map_nil, List.sum_cons, List.sum_nil]
          rw [← g4]
          omega
      · rw [if_neg ha] at hle ⊢
        exact ⟨[x + 1], by simp, by simp, by simp, by simp; omega⟩
termination_by n x => (n, x)

/-- No crowd comes to more. -/
theorem best8_le (hf : ∀ x, 0 ≤ f x) (hap : 1 ≤ ap) : ∀ n x (ys : List Nat), ys.Pairwise (fun a b => a + ap ≤ b) → ys.length ≤ n → (∀ y ∈ ys, y ≤ x) → (ys.map f).sum ≤ best8 f ap n x
  | 0, x, ys, _, hl, _ => by
    obtain rfl : ys = [] := List.eq_nil_of_length_eq_zero (by omega)
    rw [best8_zero]; simp
  | n + 1, 0, ys, hp, hl, hy => by
    rw [best8_first]
    match ys, hp with
    | [], _ => simp; omega
    | [a], _ =>
      have := hy a (by simp)
      obtain rfl : a = 0 := by omega
      simp; omega
    | a :: b :: l, hp =>
      have h1 := hy b (by simp)
      have h2 := (List.pairwise_cons.1 hp).1 b (by simp)
      omega
  | n + 1, x + 1, ys, hp, hl, hy => by
    rw [best8_succ]
    rcases List.eq_nil_or_concat ys with rfl | ⟨zs, a, rfl⟩
    · have := best8_nonneg (ap := ap) hf (n + 1) x
      simp; omega
    · simp only [List.concat_eq_append] at *
      obtain ⟨p1, _, p3⟩ := List.pairwise_append.1 hp
      by_cases ha : a = x + 1
      · subst ha
        have hz : ∀ z ∈ zs, z + ap ≤ x + 1 := fun z h => p3 z h (x + 1) (by simp)
        simp only [List.map_append, List.sum_append, List.map_cons, List.map_nil, List.sum_cons, List.sum_nil]
        by_cases hap' : ap ≤ x + 1
        · rw [if_pos hap']
          have := best8_le hf hap n (x + 1 - ap) zs p1 (by simp at hl; omega) (fun z h => by have := hz z h; omega)
          omega
        · rw [if_neg hap']
          obtain rfl : zs = [] := by
            cases zs with
            | nil => rfl
            | cons z zs => have := hz z (by simp); omega
          simp; omega
      · have := best8_le hf hap (n + 1) x (zs ++ [a]) hp hl (fun z h => by
          rcases List.mem_append.1 h with h' | h'
          · have := p3 z h' a (by simp)
            have := hy a (by simp)
            omega
          · simp at h'; subst h'; have := hy z (by simp); omega)
        omega
termination_by n x => (n, x)
end

/-- The greatest sum is that of some of them. -/
theorem bs_some : ∀ (k : Nat) (l : List Int), ∃ s : List Int, s.Sublist l ∧ s.length ≤ k ∧ s.sum = bs k l
  | k, [] => ⟨[], by simp, by simp, by rw [bs_nil]; rfl⟩
  | 0, a :: l => ⟨[], by simp, by simp, by rw [bs_zero]; rfl⟩
  | k + 1, a :: l => by
    rw [bs_cons]
    obtain ⟨s, h1, h2, h3⟩ := bs_some k l
    obtain ⟨t, g1, g2, g3⟩ := bs_some (k + 1) l
    by_cases h : bs (k + 1) l ≤ a + bs k l
    · exact ⟨a :: s, h1.cons_cons a, by simp; omega, by simp; omega⟩
    · exact ⟨t, g1.cons a, g2, by omega⟩
theorem ups_gaps {s B : Int} (hs : 1 ≤ s) : ∀ (n : Nat) (x : Int), (B - x).toNat ≤ n → (upsF s B x).Pairwise (fun a b => a + s ≤ b)
  | 0, x, hn => by rw [upsF_nil (by omega)]; exact .nil
  | n + 1, x, hn => by
    by_cases h : x < B
    · rw [upsF_cons hs h]
      refine List.pairwise_cons.2 ⟨fun y hy => (mem_upsF hs hy).1, ups_gaps hs n (x + s) (by omega)⟩
    · rw [upsF_nil h]; exact .nil

section
variable {l r wt ap pe : Int}
/-- Where the persons of an arrangement stand. -/
def posU (l r ap off : Int) : List Int := ((upsF ap (max 1 l) off).map fun x => -x).reverse ++ upsF ap r (ap - off)
theorem pos_gaps (hap : 1 ≤ ap) (off : Int) (h0 : 0 ≤ off) : Gaps ap (posU l r ap off) := by
  unfold Gaps posU
  rw [List.pairwise_append]
  refine ⟨?_, ups_gaps hap _ _ (Nat.le_refl _), fun a ha b hb => ?_⟩
  · rw [List.pairwise_reverse, List.pairwise_map]
    refine (ups_gaps hap _ off (Nat.le_refl _)).imp fun {a b} h => by omega
  · obtain ⟨y, hy, rfl⟩ := List.mem_map.1 (List.mem_reverse.1 ha)
    have h1 := (mem_upsF hap hy).1
    have h2 := (mem_upsF hap hb).1
    omega
theorem pos_vals (hl : 0 ≤ l ∧ l ≤ 200) (hr : 0 ≤ r ∧ r ≤ 200) (hap : 1 ≤ ap) {off : Int} (h0 : 0 ≤ off ∧ off < ap) : ((posU l r ap off).map (shareU l r wt)).Perm (valsU l r wt ap off) := by
  rw [vals_eq]
  unfold posU
  rw [List.map_append, List.map_reverse, List.map_map]
  refine List.Perm.append ((List.reverse_perm _).trans (List.Perm.of_eq (List.map_congr_left fun x hx => ?_))) (List.Perm.of_eq (List.map_congr_left fun x hx => ?_))
  · have := mem_upsF hap hx
    exact share_left hl.1 (by omega) this.2
  · have := mem_upsF hap hx
    exact share_right (by omega) this.2
theorem pos_in (hl : 0 ≤ l) (hap : 1 ≤ ap) {off : Int} (h0 : 0 ≤ off ∧ off < ap) : ∀ y ∈ posU l r ap off, -l ≤ y ∧ y ≤ max 0 (r - 1) := fun y hy => by
  unfold posU at hy
  rcases List.mem_append.1 hy with h | h
  · obtain ⟨x, hx, rfl⟩ := List.mem_map.1 (List.mem_reverse.1 h)
    have := mem_upsF hap hx
    omega
  · have := mem_upsF hap h
    omega

/-- **The program's greatest burden is that of the worst crowd.** -/
theorem best8_best (hl : 0 ≤ l ∧ l ≤ 200) (hr : 0 ≤ r ∧ r ≤ 200) (hwt : 0 ≤ wt ∧ wt ≤ 500) (hap : 1 ≤ ap ∧ ap ≤ 400) (hpe : 0 ≤ pe) {at_ len : Int} (h1 : l ≤ at_) (h2 : at_ + r ≤ len) :
    best8 (fun x => shareU l r wt ((x : Int) - at_)) ap.toNat pe.toNat len.toNat = bestU l r wt ap pe (min ap (max l r + 1)).toNat := by
  have hf : ∀ x : Nat, 0 ≤ shareU l r wt ((x : Int) - at_) := fun x => (share_nonneg hl hr hwt _).1
  rw [← best_all hl hr hwt hap]
  refine Int.le_antisymm ?_ (best_le _ _ (best8_nonneg hf _ _) fun off ho => ?_)
  · obtain ⟨ys, p1, p2, p3, p4⟩ := best8_crowd (ap := ap.toNat) hf (by omega) pe.toNat len.toNat
    rw [p4]
    have := crowd_le (pe := pe) hl hr hwt hap (ys.map fun y : Nat => (y : Int) - at_) (by
      unfold Gaps
      rw [List.pairwise_map]
      exact p1.imp fun {a b} h => by omega) (by simp; omega)
    rw [List.map_map] at this
    exact this
  · have hoff : 0 ≤ (off : Int) ∧ (off : Int) < ap := by omega
    rw [topS_bs _ _ (vals_nonneg hl hr hoff hwt hap), ← bs_perm (pos_vals hl hr hap.1 hoff) _]
    obtain ⟨s, q1, q2, q3⟩ := bs_some pe.toNat ((posU l r ap off).map (shareU l r wt))
    obtain ⟨zs, z1, rfl⟩ := List.sublist_map_iff.1 q1
    rw [← q3]
    have hz : ∀ z ∈ zs, 0 ≤ z + at_ ∧ z + at_ ≤ len := fun z h => by
      have := pos_in (l := l) (r := r) hl.1 hap.1 hoff z (z1.subset h)
      omega
    have e : zs.map (shareU l r wt) = (zs.map fun z => (z + at_).toNat).map (fun x : Nat => shareU l r wt ((x : Int) - at_)) := by
      rw [List.map_map]
      refine List.map_congr_left fun z h => ?_
      have := hz z h
      simp only [Function.comp]
      congr 1
      omega
    rw [e]
    refine best8_le hf (by omega) _ _ _ ?_ (by simpa using q2) (fun y hy => ?_)
    · rw [List.pairwise_map]
      have hg := (pos_gaps (l := l) (r := r) hap.1 (off : Int) hoff.1).sublist z1
      refine List.Pairwise.imp_of_mem (fun {a b} ha hb h => ?_) hg
      have := hz a ha
      have := hz b hb
      omega
    · obtain ⟨z, hz', rfl⟩ := List.mem_map.1 hy
      have := hz z hz'
      omega
end
end Go.Proofs.Ytilmlgngnbokfaa
