/- Rows of spots of one's own; an append to an empty literal; copies of a struct in whatever order they are made. -/
import Derived.Test.YtfebhofihioaoaaU
namespace Go.Proofs.Ytfebhofihioaoaa
set_option linter.unusedVariables false
set_option linter.unusedSimpArgs false
open Go Go.RowKit
def flat4 (l : List (Int × Int × Int × Int)) : List Value := l.flatMap fun s => [I s.1, I s.2.1, I s.2.2.1, I s.2.2.2]
theorem flat4_len : ∀ l : List (Int × Int × Int × Int), (flat4 l).length = l.length * 4
  | [] => rfl
  | s :: l => by
    have := flat4_len l
    simp only [flat4, List.flatMap_cons, List.length_append, List.length_cons, List.length_nil] at this ⊢
    omega
theorem flat4_get : ∀ (l : List (Int × Int × Int × Int)) (k : Nat) (h : k < l.length), (flat4 l)[k * 4]? = some (I l[k].1) ∧ (flat4 l)[k * 4 + 1]? = some (I l[k].2.1) ∧ (flat4 l)[k * 4 + 2]? = some (I l[k].2.2.1) ∧ (flat4 l)[k * 4 + 3]? = some (I l[k].2.2.2)
  | [], k, h => by simp at h
  | s :: l, 0, _ => by simp [flat4]
  | s :: l, k + 1, h => by
    have ih := flat4_get l k (by simpa using h)
    rw [show (k + 1) * 4 = k * 4 + 4 by omega]
    have e2 : flat4 (s :: l) = I s.1 :: I s.2.1 :: I s.2.2.1 :: I s.2.2.2 :: flat4 l := by simp [flat4]
    rw [e2]
    simpa using ih
theorem flat4_one (l : List (Int × Int × Int × Int)) : ∀ u ∈ flat4 l, u.oneCell' = true := fun u hu => by
  obtain ⟨x, _, hx⟩ := List.mem_flatMap.1 hu
  simp at hx
  rcases hx with rfl | rfl | rfl | rfl <;> rfl
theorem flat4_set : ∀ (l : List (Int × Int × Int × Int)) (k : Nat) (z : Int) (h : k < l.length), flat4 (l.set k (l[k].1, l[k].2.1, l[k].2.2.1, z)) = (flat4 l).set (k * 4 + 3) (I z)
  | [], k, _, h => by simp at h
  | s :: l, 0, z, _ => by simp [flat4]
  | s :: l, k + 1, z, h => by
    have ih := flat4_set l k z (by simpa using h)
    rw [show (k + 1) * 4 + 3 = (k * 4 + 3) + 1 + 1 + 1 + 1 by omega]
    have e2 : ∀ (s : Int × Int × Int × Int) l, flat4 (s :: l) = I s.1 :: I s.2.1 :: I s.2.2.1 :: I s.2.2.2 :: flat4 l := fun s l => by simp [flat4]
    simp only [List.set_cons_succ, List.getElem_cons_succ, e2]
    rw [ih]
theorem flat4_at {W : World} {B : Nat} {A : Option Addr} {xs : List (Int × Int × Int × Int)} (h : Fours W B A xs) : 0 < xs.length → ∃ ad, A = some ad ∧ ∀ j u, (flat4 xs)[j]? = some u → W.cell? (ad.add j) = some u := fun h0 => by
  obtain ⟨b, off, rfl, _, hc⟩ := h h0
  refine ⟨_, rfl, fun j u hj => ?_⟩
  have hj' : j < xs.length * 4 := by
    have := (List.getElem?_eq_some_iff.1 hj).1
    rwa [flat4_len] at this
  have hk : j / 4 < xs.length := by omega
  obtain ⟨c0, c1, c2, c3⟩ := hc (j / 4) hk
  obtain ⟨d0, d1, d2, d3⟩ := flat4_get xs (j / 4) hk
  rw [Addr.add_lit]
  rcases (by omega : j = j / 4 * 4 ∨ j = j / 4 * 4 + 1 ∨ j = j / 4 * 4 + 2 ∨ j = j / 4 * 4 + 3) with e | e | e | e
  · rw [e] at hj ⊢; rw [d0] at hj; cases hj; exact c0
  · rw [e] at hj ⊢; rw [d1] at hj; cases hj; rw [← Nat.add_assoc]; exact c1
  · rw [e] at hj ⊢; rw [d2] at hj; cases hj; rw [← Nat.add_assoc]; exact c2
  · rw [e] at hj ⊢; rw [d3] at hj; cases hj; rw [← Nat.add_assoc]; exact c3
theorem fours_own {W : World} {base g n cap : Nat} {e : TypeId} {xs : List (Int × Int × Int × Int)} (h : W.ownsRow base e 4 (.slice (some ⟨g, 0, none⟩) n cap) n (flat4 xs)) : Fours W W.heap.size (some ⟨g, 0, none⟩) xs := fun _ => by
  refine ⟨g, 0, rfl, (h.lt g rfl).2, fun k hk => ?_⟩
  have hc := h.cells (g := g) rfl
  obtain ⟨a, b, d, f⟩ := flat4_get xs k hk
  have ha := hc _ _ a
  have hb := hc _ _ b
  have hd := hc _ _ d
  have hf := hc _ _ f
  rw [Addr.add_lit] at ha hb hd hf
  exact ⟨ha, hb, hd, hf⟩
theorem ints_own {W : World} {base g n cap : Nat} {e : TypeId} {xs : List Int} (h : W.ownsRow base e 1 (.slice (some ⟨g, 0, none⟩) n cap) n (xs.map I)) : Ints W W.heap.size (some ⟨g, 0, none⟩) xs := fun _ => by
  refine ⟨g, 0, rfl, (h.lt g rfl).2, fun k hk => ?_⟩
  have hc := h.cells (g := g) rfl k (I xs[k]) (by simp [hk])
  rwa [Addr.add_lit] at hc
theorem ints_at {W : World} {B : Nat} {A : Option Addr} {xs : List Int} (h : Ints W B A xs) : 0 < xs.length → ∃ ad, A = some ad ∧ ∀ j u, (xs.map I)[j]? = some u → W.cell? (ad.add j) = some u := fun h0 => by
  obtain ⟨b, off, rfl, _, hc⟩ := h h0
  refine ⟨_, rfl, fun j u hj => ?_⟩
  obtain ⟨hj1, rfl⟩ := List.getElem?_eq_some_iff.1 hj
  rw [Addr.add_lit, hc j (by simpa using hj1)]
  simp
/-- What an append to an empty literal leaves. -/
theorem app_new {w w' : World} {t e : TypeId} {size n : Nat} {v : Value} {xs : List Value} (hown : w'.ownsRow w.heap.size e size v (0 + n) ([] ++ xs)) (hg : (w.alloc (.cells #[] t)).grownBy w' (some w.heap.size)) (hn : 0 < n) :
    ∃ g cap, v = .slice (some ⟨g, 0, none⟩) n cap ∧ Below w.heap.size w w' ∧ w.heap.size ≤ g ∧ g < w'.heap.size ∧ Hid (w'.ownsRow w.heap.size e size (.slice (some ⟨g, 0, none⟩) n cap) n xs) := by
  rw [Nat.zero_add, List.nil_append] at hown
  rcases hown.2 with h1 | ⟨g, cap, cur, rfl, hb, hc, h3, h4, _⟩
  · omega
  · exact ⟨g, cap, rfl, ((Below.refl _ w).alloc (Nat.le_refl _) _).grown hg (by simp) (by intro k hk; cases hk; exact Nat.le_refl _), hb, (hown.lt g rfl).2, Lib.hid hown⟩
end Go.Proofs.Ytfebhofihioaoaa
