/- Crowd, plain: with more of it, no fewer; with twice of all, twice as many. -/
import Derived.Test.YtomfnldlnoiloaaDoorN9
namespace Go.Proofs.YtomfnldlnoiloaaDoor
set_option linter.unusedVariables false
set_option linter.unusedSimpArgs false

theorem lsum_map_le {α : Type} {f g : α → Int} : ∀ {l : List α}, (∀ x, x ∈ l → f x ≤ g x) → lsum (l.map f) ≤ lsum (l.map g)
  | [], _ => Int.le_refl _
  | a :: l, h => by
    rw [List.map_cons, List.map_cons, lsum_cons, lsum_cons]
    have := h a (by simp)
    have := lsum_map_le (f := f) (g := g) (l := l) fun x hx => h x (by simp [hx])
    omega
theorem lsum_nn {α : Type} {f : α → Int} {l : List α} (h : ∀ x, x ∈ l → 0 ≤ f x) : 0 ≤ lsum (l.map f) := by
  induction l with
  | nil => exact Int.le_refl _
  | cons a l ih =>
    rw [List.map_cons, lsum_cons]
    have := h a (by simp)
    have := ih fun x hx => h x (by simp [hx])
    omega
theorem widL_flat {α : Type} (S : Nat → Bool) (f : α → List Arc3) : ∀ l : List α, widL S (l.flatMap f) = lsum (l.map fun x => widL S (f x))
  | [] => rfl
  | a :: l => by rw [List.flatMap_cons, widL_app, List.map_cons, lsum_cons, widL_flat S f l]
/-- What a cut of the document's network is wide, part by part. -/
theorem widL_netD (S : Nat → Bool) (v : Vis) (p m : Nat) : widL S (netD v p m) =
    sumK (fun t => sumK (fun q => crossA S (srcN v m, nd v.n q t, arrive v q t) + (if t < m then crossA S (waitA v t q) else 0)) v.n + lsum (v.tr.map fun x => if t + x.2.2.1.toNat ≤ m then crossA S (nd v.n x.1.toNat t, nd v.n x.2.1.toNat (t + x.2.2.1.toNat), x.2.2.2) else 0)) (m + 1) + crossA S (lastA v p m) := by
  unfold netD
  rw [widL_app, widL_range]
  congr 1
  · refine sumK_congr fun t _ => ?_
    rw [widL_app, widL_range]
    congr 1
    · refine sumK_congr fun q _ => ?_
      rw [widL_cons]
      by_cases h : t < m
      · rw [if_pos h, if_pos h]; simp [widL, lsum]
      · rw [if_neg h, if_neg h]; simp [widL, lsum]
    · unfold trailsA
      rw [widL_flat]
      congr 1
      refine List.map_congr_left fun x _ => ?_
      split
      · simp [widL, lsum]
      · rfl
  · simp [widL, lsum]
theorem cross_le (S : Nat → Bool) {a b : Nat} {c d : Int} (h : c ≤ d) : crossA S (a, b, c) ≤ crossA S (a, b, d) := by
  unfold crossA
  dsimp only
  split <;> omega
theorem cross_nn (S : Nat → Bool) {a b : Nat} {c : Int} (h : 0 ≤ c) : 0 ≤ crossA S (a, b, c) := by
  unfold crossA
  dsimp only
  split <;> omega
theorem cross_two (S : Nat → Bool) {a b : Nat} {c : Int} : crossA S (a, b, 2 * c) = 2 * crossA S (a, b, c) := by
  unfold crossA
  dsimp only
  split <;> omega
/-- A greater visit: as many places; more room, more people, more trails. -/
structure VisLe (v v' : Vis) : Prop where
  n : v'.n = v.n
  room : ∀ q, q < v.n → v.room q ≤ v'.room q
  arr : ∀ q t, arrive v q t ≤ arrive v' q t
  tr : ∀ g : Nat → Nat → Nat → Int → Int, (∀ a b c d e, d ≤ e → g a b c d ≤ g a b c e) → (∀ a b c d, 0 ≤ d → 0 ≤ g a b c d) → lsum (v.tr.map fun x => g x.1.toNat x.2.1.toNat x.2.2.1.toNat x.2.2.2) ≤ lsum (v'.tr.map fun x => g x.1.toNat x.2.1.toNat x.2.2.1.toNat x.2.2.2)
theorem VisLe.wid {v v' : Vis} (h : VisLe v v') (S : Nat → Bool) {p m : Nat} (hp : p < v.n) : widL S (netD v p m) ≤ widL S (netD v' p m) := by
  have hs : srcN v' m = srcN v m := by unfold srcN; rw [h.n]
  rw [widL_netD, widL_netD, h.n, hs]
  refine Int.add_le_add (sumK_le fun t _ => Int.add_le_add (sumK_le fun q hq => Int.add_le_add (cross_le S (h.arr q t)) ?_) ?_) ?_
  · by_cases e : t < m
    · rw [if_pos e, if_pos e]; unfold waitA; rw [h.n]; exact cross_le S (h.room q hq)
    · rw [if_neg e, if_neg e]; exact Int.le_refl _
  · refine h.tr (fun a b c d => if t + c ≤ m then crossA S (nd v.n a t, nd v.n b (t + c), d) else 0) (fun a b c d e hde => ?_) (fun a b c d hd => ?_)
    · split
      · exact cross_le S hde
      · exact Int.le_refl _
    · split
      · exact cross_nn S hd
      · exact Int.le_refl _
  · unfold lastA snkN; rw [h.n, hs]; exact cross_le S (h.room p hp)
theorem VisLe.most {v v' : Vis} (h : VisLe v v') {p m : Nat} (hp : p < v.n) {a b : Int} {R R' : Nat → Bool} (h1 : MostIs v p m a R) (h2 : MostIs v' p m b R') : a ≤ b := by
  have hs : srcN v' m = srcN v m := by unfold srcN; rw [h.n]
  have ht : snkN v' m = snkN v m := by unfold snkN; rw [hs]
  unfold MostIs at h1 h2
  rw [hs, ht] at h2
  exact h1.mono h2 fun S _ _ => h.wid S hp
/-- Twice of all. -/
def dblV (v : Vis) : Vis := ⟨v.rm.map (· * 2), v.tr.map fun x => (x.1, x.2.1, x.2.2.1, x.2.2.2 * 2), v.ar.map fun a => (a.1, a.2.1, a.2.2 * 2)⟩
theorem dbl_n (v : Vis) : (dblV v).n = v.n := by simp [dblV, Vis.n]
theorem dbl_room (v : Vis) (q : Nat) : (dblV v).room q = 2 * v.room q := by
  unfold Vis.room dblV
  simp only [List.getD_eq_getElem?_getD, List.getElem?_map]
  cases v.rm[q]? with
  | none => rfl
  | some x => simp; omega
theorem lsum_two {α : Type} {f g : α → Int} : ∀ {l : List α}, (∀ x, x ∈ l → g x = 2 * f x) → lsum (l.map g) = 2 * lsum (l.map f)
  | [], _ => rfl
  | a :: l, h => by
    rw [List.map_cons, List.map_cons, lsum_cons, lsum_cons, h a (by simp), lsum_two (f := f) (g := g) fun x hx => h x (by simp [hx])]
    omega
theorem dbl_arrive (v : Vis) (q t : Nat) : arrive (dblV v) q t = 2 * arrive v q t := by
  unfold arrive dblV
  rw [List.map_map]
  refine lsum_two fun a _ => ?_
  simp only [Function.comp]
  split <;> omega
theorem sumK_two {f g : Nat → Int} : ∀ {k : Nat}, (∀ i, i < k → g i = 2 * f i) → sumK g k = 2 * sumK f k
  | 0, _ => rfl
  | k + 1, h => by rw [sumK_succ, sumK_succ, h k (by omega), sumK_two (f := f) (g := g) fun i hi => h i (by omega)]; omega
theorem dbl_wid (v : Vis) (S : Nat → Bool) (p m : Nat) : widL S (netD (dblV v) p m) = 2 * widL S (netD v p m) := by
  have hs : srcN (dblV v) m = srcN v m := by unfold srcN; rw [dbl_n]
  rw [widL_netD, widL_netD, dbl_n, hs, Int.mul_add]
  congr 1
  · refine sumK_two fun t _ => ?_
    rw [Int.mul_add]
    congr 1
    · refine sumK_two fun q _ => ?_
      rw [dbl_arrive, cross_two, Int.mul_add]
      congr 1
      by_cases e : t < m
      · rw [if_pos e, if_pos e]; unfold waitA; rw [dbl_n, dbl_room, cross_two]
      · rw [if_neg e, if_neg e]; rfl
    · show lsum ((v.tr.map fun x => (x.1, x.2.1, x.2.2.1, x.2.2.2 * 2)).map _) = _
      rw [List.map_map]
      refine lsum_two fun x _ => ?_
      simp only [Function.comp]
      split
      · rw [Int.mul_comm, cross_two]
      · rfl
  · unfold lastA snkN; rw [dbl_n, hs, dbl_room, cross_two]
theorem dbl_most {v : Vis} {p m : Nat} {a b : Int} {R R' : Nat → Bool} (h1 : MostIs v p m a R) (h2 : MostIs (dblV v) p m b R') : b = 2 * a := by
  have hs : srcN (dblV v) m = srcN v m := by unfold srcN; rw [dbl_n]
  have ht : snkN (dblV v) m = snkN v m := by unfold snkN; rw [hs]
  unfold MostIs at h1 h2
  rw [hs, ht] at h2
  exact h1.twice h2 fun S _ _ => dbl_wid v S p m
/-- More room at a place. -/
def widV (v : Vis) (k : Nat) (c : Int) : Vis := ⟨v.rm.set k c, v.tr, v.ar⟩
theorem wid_le {v : Vis} {k : Nat} {c : Int} (hc : v.room k ≤ c) : VisLe v (widV v k c) := by
  refine ⟨by simp [widV, Vis.n], fun q hq => ?_, fun q t => Int.le_refl _, fun g _ _ => Int.le_refl _⟩
  unfold Vis.room widV
  simp only [List.getD_eq_getElem?_getD, List.getElem?_set]
  unfold Vis.n at hq
  by_cases e : k = q
  · subst e
    unfold Vis.room at hc
    rw [List.getD_eq_getElem?_getD] at hc
    rw [if_pos rfl, if_pos hq]; exact hc
  · rw [if_neg e]; exact Int.le_refl _
/-- A trail more. -/
def trV (v : Vis) (x : Int × Int × Int × Int) : Vis := ⟨v.rm, v.tr ++ [x], v.ar⟩
theorem tr_le {v : Vis} {x : Int × Int × Int × Int} (hx : 0 ≤ x.2.2.2) : VisLe v (trV v x) := by
  refine ⟨rfl, fun q _ => Int.le_refl _, fun q t => Int.le_refl _, fun g _ h0 => ?_⟩
  unfold trV
  simp only [List.map_append, lsum_app, List.map_cons, List.map_nil, lsum_cons]
  have := h0 x.1.toNat x.2.1.toNat x.2.2.1.toNat x.2.2.2 hx
  simp [lsum]
  omega
/-- More people. -/
def manV (v : Vis) (f : Nat → Int → Int) : Vis := ⟨v.rm, v.tr, v.ar.mapIdx fun i a => (a.1, a.2.1, f i a.2.2)⟩
theorem lsum_mapIdx_le {α : Type} {g : α → Int} {h : Nat → α → α} : ∀ {l : List α}, (∀ i x, x ∈ l → g x ≤ g (h i x)) → lsum (l.map g) ≤ lsum ((l.mapIdx h).map g)
  | [], _ => Int.le_refl _
  | a :: l, hx => by
    rw [List.mapIdx_cons, List.map_cons, List.map_cons, lsum_cons, lsum_cons]
    have := hx 0 a (by simp)
    have := lsum_mapIdx_le (g := g) (h := fun i => h (i + 1)) (l := l) fun i x hi => hx (i + 1) x (by simp [hi])
    omega
theorem man_le {v : Vis} {f : Nat → Int → Int} (hf : ∀ i a, a ∈ v.ar → a.2.2 ≤ f i a.2.2) : VisLe v (manV v f) := by
  refine ⟨rfl, fun q _ => Int.le_refl _, fun q t => ?_, fun g _ _ => Int.le_refl _⟩
  unfold arrive manV
  refine lsum_mapIdx_le fun i a ha => ?_
  have := hf i a ha
  dsimp only
  split <;> omega
end Go.Proofs.YtomfnldlnoiloaaDoor
