/- Rows of moves of one's own; two moves that change places. -/
import Derived.Test.YtomfnldlnoiloaaDoorV3
import Derived.Test.YtomfnldlnoiloaaDoorT2
import Derived.Test.YtomfnldlnoiloaaDoorS10
namespace Go.Proofs.YtomfnldlnoiloaaDoor
set_option linter.unusedVariables false
set_option linter.unusedSimpArgs false
open Go Go.RowKit

def flat3 (xs : List (Int × Int × Int)) : List Value := xs.flatMap fun s => [I s.1, I s.2.1, I s.2.2]
theorem flat3_cons (x : Int × Int × Int) (r : List (Int × Int × Int)) : flat3 (x :: r) = I x.1 :: I x.2.1 :: I x.2.2 :: flat3 r := rfl
theorem flat3_app (a b : List (Int × Int × Int)) : flat3 (a ++ b) = flat3 a ++ flat3 b := by simp [flat3]
theorem flat3_len (xs : List (Int × Int × Int)) : (flat3 xs).length = xs.length * 3 := by
  induction xs with
  | nil => rfl
  | cons x r ih =>
    rw [flat3_cons]
    simp only [List.length_cons, ih]
    omega
theorem flat3_one : ∀ (xs : List (Int × Int × Int)), ∀ u ∈ flat3 xs, u.oneCell' = true := fun xs u hu => by
  obtain ⟨x, _, hx⟩ := List.mem_flatMap.1 hu
  simp at hx
  rcases hx with rfl | rfl | rfl <;> rfl
theorem flat3_get : ∀ (xs : List (Int × Int × Int)) (k : Nat) (h : k < xs.length), (flat3 xs)[k * 3]? = some (I xs[k].1) ∧ (flat3 xs)[k * 3 + 1]? = some (I xs[k].2.1) ∧ (flat3 xs)[k * 3 + 2]? = some (I xs[k].2.2)
  | [], k, h => by simp at h
  | x :: r, 0, _ => ⟨rfl, rfl, rfl⟩
  | x :: r, k + 1, h => by
    have ih := flat3_get r k (by simpa using h)
    rw [flat3_cons, show (k + 1) * 3 = k * 3 + 1 + 1 + 1 by omega]
    simpa using ih
theorem flat3_at {W : World} {B : Nat} {A : Option Addr} {xs : List (Int × Int × Int)} (h : Threes W B A xs) : 0 < xs.length → ∃ ad, A = some ad ∧ ∀ j u, (flat3 xs)[j]? = some u → W.cell? (ad.add j) = some u := fun h0 => by
  obtain ⟨b, off, rfl, _, hc⟩ := h h0
  refine ⟨_, rfl, fun j u hj => ?_⟩
  have hj' : j < xs.length * 3 := by
    have := (List.getElem?_eq_some_iff.1 hj).1
    rwa [flat3_len] at this
  have hk : j / 3 < xs.length := by omega
  obtain ⟨c0, c1, c2⟩ := hc (j / 3) hk
  obtain ⟨d0, d1, d2⟩ := flat3_get xs (j / 3) hk
  rw [Addr.add_lit]
  rcases (by omega : j = j / 3 * 3 ∨ j = j / 3 * 3 + 1 ∨ j = j / 3 * 3 + 2) with e | e | e
  · rw [e] at hj ⊢; rw [d0] at hj; cases hj; exact c0
  · rw [e] at hj ⊢; rw [d1] at hj; cases hj; rw [← Nat.add_assoc]; exact c1
  · rw [e] at hj ⊢; rw [d2] at hj; cases hj; rw [← Nat.add_assoc]; exact c2
theorem threes_own {W : World} {base n : Nat} {v : Value} {xs : List (Int × Int × Int)} {e : TypeId} (h : W.ownsRow base e 3 v n (flat3 xs)) (hn : xs.length = n) :
    ∃ A c, v = .slice A n c ∧ Threes W W.heap.size A xs := by
  rcases own_formS h with ⟨rfl, h0⟩ | ⟨g, cap, rfl, h1, h2⟩
  · exact ⟨none, 0, by rw [h0], fun h => by omega⟩
  · refine ⟨_, _, rfl, fun _ => ⟨g, 0, rfl, h2, fun k hk => ?_⟩⟩
    obtain ⟨e1, e2, e3⟩ := flat3_get xs k hk
    rw [Nat.zero_add]
    exact ⟨(h.cellAt (k * 3) (by omega)).trans e1, (h.cellAt (k * 3 + 1) (by omega)).trans e2, (h.cellAt (k * 3 + 2) (by omega)).trans e3⟩
theorem own3_form {W : World} {base n c : Nat} {A : Option Addr} {xs : List Value} {e : TypeId} (h : W.ownsRow base e 3 (.slice A n c) n xs) (hn : 0 < n) : ∃ g, A = some ⟨g, 0, none⟩ ∧ base ≤ g ∧ g < W.heap.size := by
  rcases own_formS h with ⟨h1, h0⟩ | ⟨g, cap, h1, h2, h3⟩
  · omega
  · simp only [Value.slice.injEq] at h1
    exact ⟨g, h1.1, h2, h3⟩
theorem info56 : (Tryd.prog.info? 56).map (fun i => (i.zero, i.size, i.bytes)) = some (some (.agg #[I 0, I 0, I 0]), 3, 24) := by kernel_rfl
/-- Two neighbours of a list, taken out and laid in again. -/
theorem two_at {l : List Mv} {i : Nat} (h : i + 1 < l.length) : ∃ a b, l = a ++ l[i] :: l[i + 1] :: b ∧ a.length = i := by
  refine ⟨l.take i, l.drop (i + 2), ?_, by rw [List.length_take]; omega⟩
  conv => lhs; rw [← List.take_append_drop i l, List.drop_eq_getElem_cons (show i < l.length by omega), List.drop_eq_getElem_cons h]
/-- The cells of the list with two neighbours changed about. -/
theorem flat3_swap (a b : List Mv) (x y : Mv) (i k : Nat) (hi : a.length = i) (hk : k = i + 1) :
    ((((((flat3 (a ++ x :: y :: b)).set (i * 3) (I y.1)).set (i * 3 + 1) (I y.2.1)).set (i * 3 + 2) (I y.2.2)).set (k * 3) (I x.1)).set (k * 3 + 1) (I x.2.1)).set (k * 3 + 2) (I x.2.2) = flat3 (a ++ y :: x :: b) := by
  have hl : (flat3 a).length = i * 3 := by rw [flat3_len, hi]
  have hk3 : k * 3 = i * 3 + 3 := by omega
  have k0 : ∀ (q : List Value) (u : Value), (flat3 a ++ q).set (flat3 a).length u = flat3 a ++ q.set 0 u := fun q u => by simp [List.set_append]
  have kj : ∀ (q : List Value) (j : Nat) (u : Value), (flat3 a ++ q).set ((flat3 a).length + j) u = flat3 a ++ q.set j u := fun q j u => by simp [List.set_append]
  rw [flat3_app, flat3_app, flat3_cons, flat3_cons, flat3_cons, flat3_cons, hk3, ← hl, k0, kj, kj, Nat.add_assoc, Nat.add_assoc, kj, kj, kj]
  rfl
theorem good_swap {v : Vis} (hv : VisOk v) {a b : List Mv} {x y : Mv} (h : Good v [] (a ++ x :: y :: b)) (hf : free2 v x y = true) : Good v [] (a ++ y :: x :: b) := by
  rw [Good.app] at h ⊢
  exact ⟨h.1, h.2.swap hv hf⟩
theorem perm_swap (a b : List Mv) (x y : Mv) : (a ++ y :: x :: b).Perm (a ++ x :: y :: b) := List.Perm.append_left a (List.Perm.swap x y b)
theorem till_snoc (mn : Int) {l : List Mv} {k : Nat} (hk : k < l.length) : tillM mn (l.take (k + 1)) = tillM mn (l.take k) ++ (if l[k].1 ≤ mn then [l[k]] else []) := by
  rw [List.take_succ_eq_append_getElem hk, tillM, List.filter_append]
  by_cases h : l[k].1 ≤ mn
  · simp [tillM, h]
  · simp [tillM, h]
/-- What See tells of moves that it refuses. -/
theorem see_bad {v : Vis} {l : List Mv} {p m : Int} (h : (seeV v l p m).2.2 ≠ 0) : (seeV v l p m).1 = 0 ∧ 0 ≤ (seeV v l p m).2.1 ∧ (seeV v l p m).2.1 ≤ (l.length : Int) := by
  have hk : (seeF v l).1 ≤ l.length := seeG_le (Nat.zero_le _)
  unfold seeV at h ⊢
  by_cases h1 : errN v p m = 0
  · by_cases h2 : l.length ≤ 256
    · by_cases h3 : (seeF v l).2 = 0
      · rw [if_pos h1, if_pos h2, if_pos h3] at h; exact absurd rfl h
      · rw [if_pos h1, if_pos h2, if_neg h3]; dsimp only; omega
    · rw [if_pos h1, if_neg h2]; dsimp only; omega
  · rw [if_neg h1]; dsimp only; omega
/-- .. and that it makes. -/
theorem see_fine {v : Vis} {l : List Mv} {p m : Int} (h : (seeV v l p m).2.2 = 0) : errN v p m = 0 ∧ l.length ≤ 256 ∧ Good v [] l ∧ seeV v l p m = (min (begM v l p.toNat m.toNat) (v.room p.toNat), (l.length : Int), 0) := by
  by_cases h1 : errN v p m = 0
  · by_cases h2 : l.length ≤ 256
    · by_cases h3 : (seeF v l).2 = 0
      · obtain ⟨g1, g2⟩ := see_all (v := v) (l := l) (k := (seeF v l).1) (by rw [← h3])
        refine ⟨h1, h2, g1, ?_⟩
        unfold seeV
        rw [if_pos h1, if_pos h2, if_pos h3, g2, List.take_length]
      · unfold seeV at h; rw [if_pos h1, if_pos h2, if_neg h3] at h; exact absurd h h3
    · unfold seeV at h; rw [if_pos h1, if_neg h2] at h; cases h
  · unfold seeV at h; rw [if_neg h1] at h; exact absurd h h1
theorem see_made {v : Vis} {l : List Mv} {p m : Int} (h : errN v p m = 0) (h2 : l.length ≤ 256) (hg : Good v [] l) : seeV v l p m = (min (begM v l p.toNat m.toNat) (v.room p.toNat), (l.length : Int), 0) := by
  unfold seeV
  rw [if_pos h, if_pos h2, all_see hg, if_pos rfl, List.take_length]
end Go.Proofs.YtomfnldlnoiloaaDoor
