/- The document's spans of all mains, from the wells down and back. -/
import Derived.Test.YtgdilbilhajgaaaDoorD1
namespace Go.Proofs.YtgdilbilhajgaaaDoor
set_option linter.unusedVariables false
set_option linter.unusedSimpArgs false
open Go Go.RowKit

/-! Plain: from the wells down. -/
def Up0 (m : List (Int × Int)) (l : List (Int × Int × Int)) (p : Nat) (s : Nat → Int × Int) : Prop := ∀ i, p ≤ i → i < m.length → s i = andS (toldW l i) (ownW m s i) ∧ (s i).1 ≤ (s i).2
theorem andS_comm (a b : Int × Int) : andS a b = andS b a := by
  unfold andS
  rw [Int.max_comm, Int.min_comm]
section
variable {m : List (Int × Int)} {l : List (Int × Int × Int)} {s : Nat → Int × Int}
theorem ownW_congr (hm : MOk m) {s s' : Nat → Int × Int} {i : Nat} (h : ∀ k, i < k → k < m.length → s k = s' k) : ownW m s i = ownW m s' i := by
  unfold ownW
  split
  · rfl
  · exact Prod.ext (sumL_congr fun k hk => by rw [h k (kids_gt hm hk) (kids_lt hk)]) (sumL_congr fun k hk => by rw [h k (kids_gt hm hk) (kids_lt hk)])
theorem Up0.to (hm : MOk m) {p : Nat} (h : Up0 m l p s) : UpTo m l p fun j => if j < p then toldW l j else s j := by
  refine ⟨fun i hp hi => ?_, fun i hp _ => if_pos hp⟩
  have e : ownW m (fun j => if j < p then toldW l j else s j) i = ownW m s i := ownW_congr hm fun k hk _ => if_neg (by omega)
  rw [e]
  simp only [show ¬ i < p by omega, if_false]
  exact h i hp hi
theorem Up0.bd (hm : MOk m) {p : Nat} (h : Up0 m l p s) {i : Nat} (hp : p ≤ i) (hi : i < m.length) : 0 ≤ (s i).1 ∧ (s i).1 ≤ (s i).2 ∧ (s i).2 ≤ 1600 := by
  have := (h.to hm).bd hp hi
  simpa only [show ¬ i < p by omega, if_false] using this
theorem Up0.sound (hm : MOk m) {p : Nat} (h : Up0 m l p s) {x : Nat → Int} (hx : Feas m l x) {i : Nat} (hp : p ≤ i) (hi : i < m.length) : (s i).1 ≤ x i ∧ x i ≤ (s i).2 := by
  have := sound_from hm (h.to hm) hx m.length i hp hi (by omega)
  simpa only [show ¬ i < p by omega, if_false] using this
theorem Up0.step (hm : MOk m) {i : Nat} (hi : i < m.length) (h : Up0 m l (i + 1) s) {s' : Nat → Int × Int} (hs' : ∀ k, s' k = if k = i then andS (ownW m s i) (toldW l i) else s k) :
    ((s' i).1 ≤ (s' i).2 → Up0 m l i s') ∧ ((s' i).2 < (s' i).1 → ¬ ∃ x, Feas m l x) := by
  have ho : ∀ j, i ≤ j → ownW m s' j = ownW m s j := fun j hj => ownW_congr hm fun k hk _ => by rw [hs', if_neg (by omega)]
  have hv : s' i = andS (toldW l i) (ownW m s i) := by rw [hs', if_pos rfl, andS_comm]
  constructor
  · intro hle j hj hjl
    rw [ho j hj]
    rcases Nat.lt_or_ge i j with h1 | h1
    · rw [hs', if_neg (by omega)]
      exact h j (by omega) hjl
    · obtain rfl : j = i := by omega
      exact ⟨hv, hle⟩
  · rintro hlt ⟨x, hx⟩
    obtain ⟨h1, h2, h3⟩ := hx i hi
    rw [hv] at hlt
    unfold ownW at hlt
    by_cases e : kids m i = []
    · have := h2 e
      simp only [e, if_true, andS] at hlt
      omega
    · simp only [e, if_false, andS] at hlt
      have h4 := h3 e
      have a := sumL_le (l := kids m i) (fun k hk => (h.sound hm hx (show i + 1 ≤ k by have := kids_gt hm hk; omega) (kids_lt hk)).1)
      have b := sumL_le (l := kids m i) (fun k hk => (h.sound hm hx (show i + 1 ≤ k by have := kids_gt hm hk; omega) (kids_lt hk)).2)
      omega
theorem sum_kids (i : Nat) : sumS m s (i : Int) (-1) m.length = (sumL (fun k => (s k).1) (kids m i), sumL (fun k => (s k).2) (kids m i)) := by
  have e : selL m (i : Int) (-1) m.length = kids m i := by
    unfold selL kids
    exact List.filter_congr fun k _ => by
      have : ¬ ((k : Int) = -1) := by omega
      simp [this]
  unfold sumS
  rw [e]
theorem sum_sibs (hm : MOk m) {x : Nat} (h0 : 0 < x) (hx : x < m.length) : sumS m s (parW m x) (x : Int) m.length = (sumL (fun k => (s k).1) (sibs m x), sumL (fun k => (s k).2) (sibs m x)) := by
  obtain ⟨p1, _, _⟩ := par_nat hm h0 hx
  have e : selL m (parW m x) (x : Int) m.length = sibs m x := by
    unfold selL sibs kids
    rw [List.filter_filter]
    refine List.filter_congr fun k _ => ?_
    rw [p1]
    by_cases h2 : k = x
    · subst h2
      simp
    · have h3 : ¬ ((k : Int) = (x : Int)) := by omega
      by_cases h1 : parW m k = parW m x <;> simp [h1, h2, h3]
  unfold sumS
  rw [e]
/-- One more main on the way back. -/
theorem back_step (hm : MOk m) {s d d' : Nat → Int × Int} {x : Nat} (h : DnP m l s (fun y => y < x) d) (h0 : 0 < x) (hx : x < m.length) {v : Int × Int}
    (hv : v = andS (d x) ((d (parW m x).toNat).1 - (sumS m d (parW m x) (x : Int) m.length).2, (d (parW m x).toNat).2 - (sumS m d (parW m x) (x : Int) m.length).1)) (hd' : ∀ k, d' k = if k = x then v else d k) : DnP m l s (fun y => y < x + 1) d' := by
  rw [sum_sibs hm h0 hx] at hv
  refine h.step hm h0 hx (by omega) (fun y _ _ => by omega) (fun k _ => Iff.rfl) (fun y hy0 hy hyx e => ?_) (fun y _ _ hyx _ => by omega) hv hd'
  have := hm.par y hy0 hy
  omega
theorem Up0.dn (hm : MOk m) (h : Up0 m l 0 s) : DnP m l s (fun y => y < 1) s := by
  have hu : UpTo m l 0 s := ⟨h, fun i hi _ => by omega⟩
  exact DnP.start hm hu _ fun x h0 _ => by omega
end
theorem spb_made {W : World} {base g n : Nat} {e : TypeId} (h : W.ownsRow base e 2 (.slice (some ⟨g, 0, none⟩) n n) n (madeCells (Value.agg #[I 0, I 0]).cells (n * 2)).toList) : g < W.heap.size ∧ (∀ k, k < n → W.cell? ⟨g, k * 2, none⟩ = some (I 0) ∧ W.cell? ⟨g, k * 2 + 1, none⟩ = some (I 0) ∧ W.frozen? ⟨g, k * 2, none⟩ = false ∧ W.frozen? ⟨g, k * 2 + 1, none⟩ = false) := by
  refine ⟨(h.lt g rfl).2, fun k hk => ?_⟩
  have h1 : k * 2 < n * 2 := by omega
  have h2 : k * 2 + 1 < n * 2 := by omega
  have h3 : (k * 2 + 1) % 2 = 1 := by omega
  have c0 := h.cells (g := g) rfl (k * 2) (I 0) (by simp [madeCells, Value.cells, h1, Nat.mul_mod_left])
  have c1 := h.cells (g := g) rfl (k * 2 + 1) (I 0) (by simp [madeCells, Value.cells, h2, h3])
  rw [Addr.add_lit, Nat.zero_add] at c0 c1
  obtain ⟨_, h2⟩ := h
  rcases h2 with ⟨h3, _⟩ | ⟨g', cap, cur, h3, _, h4, _⟩
  · cases h3
  · injection h3 with h5 h6 h7
    obtain rfl : g = g' := by simpa using h5
    exact ⟨c0, c1, by simp [World.frozen?, h4], by simp [World.frozen?, h4]⟩
theorem spb_zero {W : World} {base g n : Nat} {e : TypeId} (h : W.ownsRow base e 2 (.slice (some ⟨g, 0, none⟩) n n) n (madeCells (Value.agg #[I 0, I 0]).cells (n * 2)).toList) : SpB W g (List.replicate n (0, 0)) := by
  obtain ⟨h1, h2⟩ := spb_made h
  exact ⟨h1, fun k hk => by simpa using h2 k (by simpa using hk)⟩
end Go.Proofs.YtgdilbilhajgaaaDoor
