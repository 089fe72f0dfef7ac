/- Crowd, plain: a flow in a network, its value, and the least of the narrowest cuts. -/
import Derived.RowKit
namespace Go.Proofs.YtomfnldlnoiloaaDoor
set_option linter.unusedVariables false
set_option linter.unusedSimpArgs false

/-- The sum of the first k. -/
def sumK (g : Nat → Int) : Nat → Int
  | 0 => 0
  | k + 1 => sumK g k + g k
theorem sumK_congr {g h : Nat → Int} : ∀ {k : Nat}, (∀ i, i < k → g i = h i) → sumK g k = sumK h k
  | 0, _ => rfl
  | k + 1, e => by
    unfold sumK
    rw [sumK_congr fun i hi => e i (by omega), e k (by omega)]
theorem sumK_add (g h : Nat → Int) : ∀ k : Nat, sumK (fun i => g i + h i) k = sumK g k + sumK h k
  | 0 => rfl
  | k + 1 => by
    unfold sumK
    rw [sumK_add g h k]
    omega
theorem sumK_le {g h : Nat → Int} : ∀ {k : Nat}, (∀ i, i < k → g i ≤ h i) → sumK g k ≤ sumK h k
  | 0, _ => Int.le_refl _
  | k + 1, e => by
    unfold sumK
    have h1 := sumK_le (k := k) fun i hi => e i (by omega)
    have h2 := e k (by omega)
    omega
theorem sumK_tight {g h : Nat → Int} : ∀ {k : Nat}, (∀ i, i < k → g i ≤ h i) → sumK g k = sumK h k → ∀ i, i < k → g i = h i
  | 0, _, _, i, hi => by omega
  | k + 1, e, h0, i, hi => by
    unfold sumK at h0
    have h1 := sumK_le (k := k) fun i hi => e i (by omega)
    have h2 := e k (by omega)
    by_cases hk : i = k
    · subst hk; omega
    · exact sumK_tight (k := k) (fun i hi => e i (by omega)) (by omega) i (by omega)
theorem sumK_zero : ∀ k : Nat, sumK (fun _ => 0) k = 0
  | 0 => rfl
  | k + 1 => by unfold sumK; rw [sumK_zero k]; rfl
def ind (b : Bool) : Int := if b then 1 else 0
theorem over_le {V : Type} {fr to : Nat → V} {cap f : Nat → Int} {m : Nat} {S : V → Bool} (h : ∀ i, i < m → 0 ≤ f i ∧ f i ≤ cap i) : ∀ i, i < m → ind (S (fr i)) * f i - ind (S (to i)) * f i ≤ (if S (fr i) && !S (to i) then cap i else 0) := fun i hi => by
  have := h i hi
  cases S (fr i) <;> cases S (to i) <;> simp [ind] <;> omega
section
variable {V : Type}
def sumL (g : V → Int) : List V → Int
  | [] => 0
  | x :: l => g x + sumL g l
theorem sumL_add (g h : V → Int) : ∀ l : List V, sumL (fun x => g x + h x) l = sumL g l + sumL h l
  | [] => rfl
  | x :: l => by unfold sumL; rw [sumL_add g h l]; omega
theorem sumL_congr {g h : V → Int} : ∀ {l : List V}, (∀ x, x ∈ l → g x = h x) → sumL g l = sumL h l
  | [], _ => rfl
  | x :: l, e => by unfold sumL; rw [e x (by simp), sumL_congr fun y hy => e y (by simp [hy])]
theorem sumL_zero : ∀ l : List V, sumL (fun _ => 0) l = 0
  | [] => rfl
  | x :: l => by unfold sumL; rw [sumL_zero l]; rfl
variable [DecidableEq V]
/-- One element's part. -/
theorem sumL_one (S : V → Bool) (y : V) (c : Int) : ∀ l : List V, l.Nodup → sumL (fun x => ind (S x) * (if y = x then c else 0)) l = if y ∈ l then ind (S y) * c else 0
  | [], _ => by simp [sumL]
  | x :: l, h => by
    rw [List.nodup_cons] at h
    unfold sumL
    rw [sumL_one S y c l h.2]
    by_cases e : y = x
    · subst e
      simp [h.1]
    · simp [e]
/-- What goes out of a node, less what comes in. -/
def outAt (fr to : Nat → V) (f : Nat → Int) (m : Nat) (x : V) : Int := sumK (fun i => (if fr i = x then f i else 0) - (if to i = x then f i else 0)) m
/-- What goes over the edge of a set. -/
def overS (fr to : Nat → V) (f : Nat → Int) (m : Nat) (S : V → Bool) : Int := sumK (fun i => ind (S (fr i)) * f i - ind (S (to i)) * f i) m
theorem over_nodes {fr to : Nat → V} {f : Nat → Int} {S : V → Bool} {nodes : List V} (hn : nodes.Nodup) : ∀ {m : Nat}, (∀ i, i < m → fr i ∈ nodes ∧ to i ∈ nodes) → sumL (fun x => ind (S x) * outAt fr to f m x) nodes = overS fr to f m S
  | 0, _ => by
    unfold outAt overS sumK
    rw [sumL_congr (h := fun _ => 0) (fun x _ => by simp), sumL_zero]
  | m + 1, h => by
    have ih := over_nodes (fr := fr) (to := to) (f := f) (S := S) hn (m := m) fun i hi => h i (by omega)
    have h1 : sumL (fun x => ind (S x) * outAt fr to f (m + 1) x) nodes = sumL (fun x => ind (S x) * outAt fr to f m x + (ind (S x) * (if fr m = x then f m else 0) + ind (S x) * (if to m = x then - f m else 0))) nodes := sumL_congr fun x _ => by
      show ind (S x) * (outAt fr to f m x + ((if fr m = x then f m else 0) - (if to m = x then f m else 0))) = _
      have : (if to m = x then -f m else 0) = -(if to m = x then f m else 0) := by split <;> simp
      rw [this]
      unfold ind
      split <;> omega
    rw [h1, sumL_add, sumL_add, ih, sumL_one S _ _ nodes hn, sumL_one S _ _ nodes hn, if_pos (h m (by omega)).1, if_pos (h m (by omega)).2]
    show _ = overS fr to f m S + (ind (S (fr m)) * f m - ind (S (to m)) * f m)
    rw [Int.mul_neg]
    omega
/-- How wide a cut is. -/
def widS (fr to : Nat → V) (cap : Nat → Int) (m : Nat) (S : V → Bool) : Int := sumK (fun i => if S (fr i) && !S (to i) then cap i else 0) m
/-- A flow from s to t in m arcs between some nodes. -/
structure Flow (fr to : Nat → V) (cap : Nat → Int) (m : Nat) (nodes : List V) (s t : V) (f : Nat → Int) : Prop where
  nodup : nodes.Nodup
  ends : ∀ i, i < m → fr i ∈ nodes ∧ to i ∈ nodes
  mem : s ∈ nodes
  lo : ∀ i, i < m → 0 ≤ f i ∧ f i ≤ cap i
  keep : ∀ x, x ∈ nodes → x ≠ s → x ≠ t → outAt fr to f m x = 0
variable {fr to : Nat → V} {cap f : Nat → Int} {m : Nat} {nodes : List V} {s t : V} {S R : V → Bool}
theorem Flow.value (h : Flow fr to cap m nodes s t f) (hs : S s = true) (ht : S t = false) : outAt fr to f m s = overS fr to f m S := by
  rw [← over_nodes h.nodup h.ends]
  have h1 : sumL (fun x => ind (S x) * outAt fr to f m x) nodes = sumL (fun x => ind (S x) * (if s = x then outAt fr to f m s else 0)) nodes := sumL_congr fun x hx => by
    by_cases e : s = x
    · subst e; simp
    · rw [if_neg e]
      by_cases e2 : x = t
      · subst e2; rw [ht]; simp [ind]
      · rw [h.keep x hx (fun e3 => e e3.symm) e2]
  rw [h1, sumL_one S _ _ nodes h.nodup, if_pos h.mem, hs]
  simp [ind]
theorem Flow.le (h : Flow fr to cap m nodes s t f) (hs : S s = true) (ht : S t = false) : outAt fr to f m s ≤ widS fr to cap m S := by
  rw [h.value hs ht]
  exact sumK_le (over_le h.lo)
theorem Flow.tight (h : Flow fr to cap m nodes s t f) (hs : S s = true) (ht : S t = false) (he : widS fr to cap m S = outAt fr to f m s) : ∀ i, i < m → (S (fr i) = true → f i < cap i → S (to i) = true) ∧ (S (to i) = true → 0 < f i → S (fr i) = true) := fun i hi => by
  rw [h.value hs ht] at he
  have h1 := sumK_tight (over_le (S := S) (fr := fr) (to := to) h.lo) he.symm i hi
  have h2 := h.lo i hi
  cases e1 : S (fr i) <;> cases e2 : S (to i) <;> rw [e1, e2] at h1 <;> simp [ind] at h1 ⊢ <;> omega
/-- What more can reach: closed under arcs with room, and under ways back. -/
structure Closed (fr to : Nat → V) (cap f : Nat → Int) (m : Nat) (s : V) (R : V → Bool) : Prop where
  src : R s = true
  arc : ∀ i, i < m → R (fr i) = true → f i < cap i → R (to i) = true
  back : ∀ i, i < m → R (to i) = true → 0 < f i → R (fr i) = true
theorem Flow.full (h : Flow fr to cap m nodes s t f) (hR : Closed fr to cap f m s R) (ht : R t = false) : outAt fr to f m s = widS fr to cap m R := by
  rw [h.value hR.src ht]
  refine sumK_congr fun i hi => ?_
  have h1 := hR.arc i hi
  have h2 := hR.back i hi
  have h3 := h.lo i hi
  cases e1 : R (fr i) <;> cases e2 : R (to i) <;> rw [e1, e2] at h1 h2 <;> simp [ind] at h1 h2 ⊢ <;> omega
/-- The least of the narrowest cuts, and its width. -/
structure LeastCut (fr to : Nat → V) (cap : Nat → Int) (m : Nat) (s t : V) (val : Int) (R : V → Bool) : Prop where
  src : R s = true
  sink : R t = false
  width : val = widS fr to cap m R
  least : ∀ S : V → Bool, S s = true → S t = false → val ≤ widS fr to cap m S
  within : ∀ S : V → Bool, S s = true → S t = false → widS fr to cap m S = val → ∀ x, R x = true → S x = true
/-- A flow that cannot be made more tells it: what more can reach is the least of the narrowest cuts. -/
theorem Flow.cut (h : Flow fr to cap m nodes s t f) (hR : Closed fr to cap f m s R) (hl : ∀ S, Closed fr to cap f m s S → ∀ x, R x = true → S x = true) (ht : R t = false) : LeastCut fr to cap m s t (outAt fr to f m s) R :=
  ⟨hR.src, ht, h.full hR ht, fun S hs hts => h.le hs hts, fun S hs hts he => hl S ⟨hs, fun i hi => (h.tight hs hts he i hi).1, fun i hi => (h.tight hs hts he i hi).2⟩⟩
end
theorem LeastCut.uniq {V : Type} {fr to : Nat → V} {cap : Nat → Int} {m : Nat} {s t : V} {v1 v2 : Int} {R1 R2 : V → Bool} (h1 : LeastCut fr to cap m s t v1 R1) (h2 : LeastCut fr to cap m s t v2 R2) : v1 = v2 ∧ R1 = R2 := by
  have e : v1 = v2 := by
    have a := h1.least R2 h2.src h2.sink
    have b := h2.least R1 h1.src h1.sink
    rw [← h2.width] at a
    rw [← h1.width] at b
    omega
  refine ⟨e, funext fun x => ?_⟩
  have a := h1.within R2 h2.src h2.sink (by rw [← h2.width, e]) x
  have b := h2.within R1 h1.src h1.sink (by rw [← h1.width, e]) x
  cases c1 : R1 x <;> cases c2 : R2 x <;> simp_all
end Go.Proofs.YtomfnldlnoiloaaDoor
/- Crowd, plain: more along a way through the network. -/
namespace Go.Proofs.YtomfnldlnoiloaaDoor
set_option linter.unusedVariables false
set_option linter.unusedSimpArgs false

/-- A step of a way: an arc, forward or back. -/
def stepFr {V : Type} (fr to : Nat → V) (p : Nat × Bool) : V := if p.2 then fr p.1 else to p.1
def stepTo {V : Type} (fr to : Nat → V) (p : Nat × Bool) : V := if p.2 then to p.1 else fr p.1
/-- c more along a step. -/
def upd (c : Int) (f : Nat → Int) (p : Nat × Bool) : Nat → Int := fun j => if j = p.1 then (if p.2 then f j + c else f j - c) else f j
/-- Is a list of steps a way from x to y? -/
def IsWay {V : Type} (fr to : Nat → V) : V → V → List (Nat × Bool) → Prop
  | x, y, [] => x = y
  | x, y, p :: l => stepFr fr to p = x ∧ IsWay fr to (stepTo fr to p) y l
theorem IsWay.app {V : Type} {fr to : Nat → V} {y z : V} {k : List (Nat × Bool)} : ∀ {l : List (Nat × Bool)} {x : V}, IsWay fr to x y l → IsWay fr to y z k → IsWay fr to x z (l ++ k)
  | [], x, h1, h2 => by
    have h1 : x = y := h1
    subst h1
    exact h2
  | p :: l, x, h1, h2 => ⟨h1.1, IsWay.app h1.2 h2⟩
section
variable {V : Type} [DecidableEq V] {fr to : Nat → V}
theorem sumK_one {g h : Nat → Int} {i : Nat} (c : Int) (he : ∀ j, j ≠ i → h j = g j) (hc : h i = g i + c) : ∀ {k : Nat}, i < k → sumK h k = sumK g k + c
  | 0, hi => by omega
  | k + 1, hi => by
    unfold sumK
    by_cases e : i = k
    · subst e
      rw [hc, sumK_congr fun j hj => he j (by omega)]
      omega
    · rw [he k (fun e2 => e e2.symm), sumK_one c he hc (k := k) (by omega)]
      omega
theorem out_upd {f : Nat → Int} {m : Nat} {c : Int} {p : Nat × Bool} (hp : p.1 < m) (x : V) : outAt fr to (upd c f p) m x = outAt fr to f m x + ((if stepFr fr to p = x then c else 0) - (if stepTo fr to p = x then c else 0)) := by
  unfold outAt
  refine sumK_one (i := p.1) _ (fun j hj => ?_) ?_ hp
  · unfold upd
    rw [if_neg hj]
  · unfold upd stepFr stepTo
    rw [if_pos rfl]
    obtain ⟨i, b⟩ := p
    cases b <;> simp only [Bool.false_eq_true, if_false, if_true] <;> (split <;> split <;> omega)
theorem out_way {m : Nat} {c : Int} {y : V} : ∀ {l : List (Nat × Bool)} {f : Nat → Int} {s : V}, IsWay fr to s y l → (∀ p, p ∈ l → p.1 < m) → ∀ x : V, outAt fr to (l.foldl (upd c) f) m x = outAt fr to f m x + ((if s = x then c else 0) - (if y = x then c else 0))
  | [], f, s, h, _, x => by
    have h : s = y := h
    subst h
    simp
  | p :: l, f, s, h, hm, x => by
    rw [List.foldl_cons, out_way h.2 (fun q hq => hm q (by simp [hq])) x, out_upd (hm p (by simp)) x, h.1]
    omega
/-- A way's arcs are each there once: what a flow is behind it. -/
theorem way_at {c : Int} {j : Nat} : ∀ {l : List (Nat × Bool)} {f : Nat → Int}, (l.map (·.1)).Nodup → ((∀ b : Bool, (j, b) ∉ l) → l.foldl (upd c) f j = f j) ∧ ((j, true) ∈ l → l.foldl (upd c) f j = f j + c) ∧ ((j, false) ∈ l → l.foldl (upd c) f j = f j - c)
  | [], f, _ => ⟨fun _ => rfl, ⟨fun h => absurd h (by simp), fun h => absurd h (by simp)⟩⟩
  | p :: l, f, h => by
    rw [List.map_cons, List.nodup_cons] at h
    obtain ⟨h1, h2⟩ := h
    obtain ⟨i1, i2, i3⟩ := way_at (c := c) (j := j) (l := l) (f := upd c f p) h2
    have hno : p.1 = j → ∀ b, (j, b) ∉ l := fun e b hb => h1 (by rw [e]; exact List.mem_map.2 ⟨(j, b), hb, rfl⟩)
    obtain ⟨i, b⟩ := p
    rw [List.foldl_cons]
    refine ⟨fun hn => ?_, fun hm => ?_, fun hm => ?_⟩
    · rw [i1 fun b2 hb => hn b2 (by simp [hb])]
      unfold upd
      rw [if_neg (fun e => hn b (by simp [e]))]
    · rcases List.mem_cons.1 hm with e | e
      · cases e
        rw [i1 (hno rfl)]
        simp [upd]
      · rw [i2 e]
        have : i ≠ j := fun e2 => hno e2 true e
        simp [upd, Ne.symm this]
    · rcases List.mem_cons.1 hm with e | e
      · cases e
        rw [i1 (hno rfl)]
        simp [upd]
      · rw [i3 e]
        have : i ≠ j := fun e2 => hno e2 false e
        simp [upd, Ne.symm this]
/-- c more along a way on which there is room for it. -/
theorem Flow.more {cap f : Nat → Int} {m : Nat} {nodes : List V} {s t : V} {c : Int} {l : List (Nat × Bool)} (h : Flow fr to cap m nodes s t f) (hw : IsWay fr to s t l) (hn : (l.map (·.1)).Nodup) (hc : 0 ≤ c) (hr : ∀ p, p ∈ l → p.1 < m ∧ (p.2 = true → f p.1 + c ≤ cap p.1) ∧ (p.2 = false → c ≤ f p.1)) (hst : s ≠ t) :
    Flow fr to cap m nodes s t (l.foldl (upd c) f) ∧ outAt fr to (l.foldl (upd c) f) m s = outAt fr to f m s + c := by
  have hm : ∀ p, p ∈ l → p.1 < m := fun p hp => (hr p hp).1
  refine ⟨⟨h.nodup, h.ends, h.mem, fun i hi => ?_, fun x hx hs ht => ?_⟩, ?_⟩
  · obtain ⟨w1, w2, w3⟩ := way_at (c := c) (j := i) (f := f) hn
    have hb := h.lo i hi
    by_cases e1 : (i, true) ∈ l
    · rw [w2 e1]
      have := (hr _ e1).2.1 rfl
      dsimp only at this
      omega
    · by_cases e2 : (i, false) ∈ l
      · rw [w3 e2]
        have := (hr _ e2).2.2 rfl
        dsimp only at this
        omega
      · rw [w1 fun b hb2 => by cases b <;> contradiction]
        exact hb
  · rw [out_way hw hm x, h.keep x hx hs ht, if_neg (fun e => hs e.symm), if_neg (fun e => ht e.symm)]
    rfl
  · rw [out_way hw hm s, if_pos rfl, if_neg (fun e => hst e.symm)]
    omega
/-- No flow at all. -/
theorem Flow.zero {cap : Nat → Int} {m : Nat} {nodes : List V} {s t : V} (hn : nodes.Nodup) (he : ∀ i, i < m → fr i ∈ nodes ∧ to i ∈ nodes) (hs : s ∈ nodes) (hc : ∀ i, i < m → 0 ≤ cap i) : Flow fr to cap m nodes s t (fun _ => 0) ∧ ∀ x, outAt fr to (fun _ => 0) m x = 0 := by
  have h0 : ∀ x, outAt fr to (fun _ => 0) m x = 0 := fun x => by
    unfold outAt
    rw [sumK_congr (h := fun _ => 0) fun i _ => by simp]
    exact sumK_zero m
  exact ⟨⟨hn, he, hs, fun i hi => ⟨Int.le_refl _, hc i hi⟩, fun x _ _ _ => h0 x⟩, h0⟩
end
end Go.Proofs.YtomfnldlnoiloaaDoor
/- Crowd, plain: a visit, the program's network and the document's, and how wide a cut is in both. -/
namespace Go.Proofs.YtomfnldlnoiloaaDoor
set_option linter.unusedVariables false
set_option linter.unusedSimpArgs false

structure Vis where
  rm : List Int
  tr : List (Int × Int × Int × Int)
  ar : List (Int × Int × Int)
namespace Vis
def n (v : Vis) : Nat := v.rm.length
def room (v : Vis) (p : Nat) : Int := v.rm.getD p 0
end Vis
structure VisOk (v : Vis) : Prop where
  n : 1 ≤ v.n ∧ v.n ≤ 8
  tl : v.tr.length ≤ 16
  al : v.ar.length ≤ 16
  room : ∀ p, p < v.n → 0 ≤ v.room p ∧ v.room p ≤ 1000
  tr : ∀ x, x ∈ v.tr → (0 ≤ x.1 ∧ x.1 ≤ (v.n : Int) - 1) ∧ (0 ≤ x.2.1 ∧ x.2.1 ≤ (v.n : Int) - 1) ∧ x.1 ≠ x.2.1 ∧ (1 ≤ x.2.2.1 ∧ x.2.2.1 ≤ 60) ∧ (0 ≤ x.2.2.2 ∧ x.2.2.2 ≤ 1000)
  ar : ∀ a, a ∈ v.ar → (0 ≤ a.1 ∧ a.1 ≤ 60) ∧ (0 ≤ a.2.1 ∧ a.2.1 ≤ (v.n : Int) - 1) ∧ (0 ≤ a.2.2 ∧ a.2.2 ≤ 1000)
/-- An arc: from, to, room. -/
abbrev Arc3 := Nat × Nat × Int
theorem sumK_succ (g : Nat → Int) (k : Nat) : sumK g (k + 1) = sumK g k + g k := rfl
def lsum (l : List Int) : Int := l.foldr (· + ·) 0
theorem lsum_cons (a : Int) (l : List Int) : lsum (a :: l) = a + lsum l := rfl
theorem lsum_app : ∀ a b : List Int, lsum (a ++ b) = lsum a + lsum b
  | [], b => by simp [lsum]
  | x :: a, b => by rw [List.cons_append, lsum_cons, lsum_cons, lsum_app a b]; omega
def crossA (S : Nat → Bool) (a : Arc3) : Int := if S a.1 && !S a.2.1 then a.2.2 else 0
/-- How wide a cut is in a list of arcs. -/
def widL (S : Nat → Bool) (l : List Arc3) : Int := lsum (l.map (crossA S))
theorem widL_app (S : Nat → Bool) (a b : List Arc3) : widL S (a ++ b) = widL S a + widL S b := by unfold widL; rw [List.map_append, lsum_app]
theorem widL_cons (S : Nat → Bool) (a : Arc3) (l : List Arc3) : widL S (a :: l) = crossA S a + widL S l := rfl
theorem widL_range (S : Nat → Bool) (f : Nat → List Arc3) : ∀ k : Nat, widL S ((List.range k).flatMap f) = sumK (fun t => widL S (f t)) k
  | 0 => rfl
  | k + 1 => by
    rw [List.range_succ, List.flatMap_append, widL_app, widL_range S f k]
    simp [sumK]
/-- The list of arcs as three functions. -/
theorem widL_wid (S : Nat → Bool) : ∀ l : List Arc3, widL S l = widS (fun i => (l.getD i (0, 0, 0)).1) (fun i => (l.getD i (0, 0, 0)).2.1) (fun i => (l.getD i (0, 0, 0)).2.2) l.length S := fun l => by
  have key : ∀ (l : List Arc3) (k : Nat), k ≤ l.length → widL S (l.take k) = sumK (fun i => if S (l.getD i (0, 0, 0)).1 && !S (l.getD i (0, 0, 0)).2.1 then (l.getD i (0, 0, 0)).2.2 else 0) k := fun l k => by
    induction k with
    | zero => intro _; simp [widL, lsum, sumK]
    | succ k ih =>
      intro hk
      rw [List.take_succ_eq_append_getElem (by omega), widL_app, ih (by omega)]
      rw [sumK_succ]
      congr 1
      have : l.getD k (0, 0, 0) = l[k] := by simp [List.getD_eq_getElem?_getD, show k < l.length by omega]
      rw [this]
      simp [widL, lsum, crossA]
  have h := key l l.length (Nat.le_refl _)
  rw [List.take_length] at h
  exact h
def nd (n p t : Nat) : Nat := t * n + p
def srcN (v : Vis) (m : Nat) : Nat := nd v.n 0 (m + 1)
def snkN (v : Vis) (m : Nat) : Nat := srcN v m + 1
def waitA (v : Vis) (t p : Nat) : Arc3 := (nd v.n p t, nd v.n p (t + 1), v.room p)
def trailsA (v : Vis) (m t : Nat) : List Arc3 := v.tr.flatMap fun x => if t + x.2.2.1.toNat ≤ m then [(nd v.n x.1.toNat t, nd v.n x.2.1.toNat (t + x.2.2.1.toNat), x.2.2.2)] else []
def arrsA (v : Vis) (m : Nat) : List Arc3 := v.ar.flatMap fun a => if a.1.toNat ≤ m then [(srcN v m, nd v.n a.2.1.toNat a.1.toNat, a.2.2)] else []
def lastA (v : Vis) (p m : Nat) : Arc3 := (nd v.n p m, snkN v m, v.room p)
/-- How many arrive. -/
def arrive (v : Vis) (p t : Nat) : Int := lsum (v.ar.map fun a => if a.2.1.toNat = p ∧ a.1.toNat = t then a.2.2 else 0)
/-- The program's network. -/
def netP (v : Vis) (p m : Nat) : List Arc3 := (List.range (m + 1)).flatMap (fun t => ((List.range v.n).flatMap fun q => if t < m then [waitA v t q] else []) ++ trailsA v m t) ++ arrsA v m ++ [lastA v p m]
/-- The document's. -/
def netD (v : Vis) (p m : Nat) : List Arc3 := (List.range (m + 1)).flatMap (fun t => ((List.range v.n).flatMap fun q => (srcN v m, nd v.n q t, arrive v q t) :: if t < m then [waitA v t q] else []) ++ trailsA v m t) ++ [lastA v p m]
theorem sumK_pick (c : Int) (j : Nat) : ∀ k : Nat, sumK (fun i => if j = i then c else 0) k = if j < k then c else 0
  | 0 => by simp [sumK]
  | k + 1 => by
    rw [sumK_succ, sumK_pick c j k]
    by_cases e : j = k
    · subst e; simp
    · rw [if_neg e]
      by_cases h : j < k
      · rw [if_pos h, if_pos (by omega)]; omega
      · rw [if_neg h, if_neg (by omega)]; rfl
/-- Those who arrive, place by place and minute by minute, or each by itself. -/
theorem arrive_sum (S : Nat → Bool) (n m : Nat) : ∀ l : List (Int × Int × Int), (∀ a, a ∈ l → a.2.1.toNat < n) →
    sumK (fun t => sumK (fun q => if !S (nd n q t) then lsum (l.map fun a => if a.2.1.toNat = q ∧ a.1.toNat = t then a.2.2 else 0) else 0) n) (m + 1) = lsum (l.map fun a => if a.1.toNat ≤ m then (if !S (nd n a.2.1.toNat a.1.toNat) then a.2.2 else 0) else 0)
  | [], _ => by
    rw [sumK_congr (h := fun _ => 0) fun t _ => ?_]
    · rw [sumK_zero]; rfl
    · rw [sumK_congr (h := fun _ => 0) fun q _ => by simp [lsum]]
      exact sumK_zero n
  | a :: l, h => by
    have ih := arrive_sum S n m l fun b hb => h b (by simp [hb])
    have ha := h a (by simp)
    rw [List.map_cons, lsum_cons, ← ih]
    have h1 : ∀ t, t < m + 1 → sumK (fun q => if !S (nd n q t) then lsum ((a :: l).map fun a => if a.2.1.toNat = q ∧ a.1.toNat = t then a.2.2 else 0) else 0) n = (if a.1.toNat = t then (if !S (nd n a.2.1.toNat a.1.toNat) then a.2.2 else 0) else 0) + sumK (fun q => if !S (nd n q t) then lsum (l.map fun a => if a.2.1.toNat = q ∧ a.1.toNat = t then a.2.2 else 0) else 0) n := fun t _ => by
      rw [sumK_congr (h := fun q => (if a.2.1.toNat = q then (if a.1.toNat = t then (if !S (nd n a.2.1.toNat a.1.toNat) then a.2.2 else 0) else 0) else 0) + (if !S (nd n q t) then lsum (l.map fun a => if a.2.1.toNat = q ∧ a.1.toNat = t then a.2.2 else 0) else 0)) fun q _ => ?_]
      · rw [sumK_add, sumK_pick, if_pos ha]
      · rw [List.map_cons, lsum_cons]
        by_cases e1 : a.2.1.toNat = q
        · by_cases e2 : a.1.toNat = t
          · subst e1 e2
            cases S (nd n a.2.1.toNat a.1.toNat) <;> simp
          · simp [e1, e2]
        · simp [e1]
    rw [sumK_congr h1, sumK_add, sumK_pick]
    by_cases e : a.1.toNat ≤ m
    · rw [if_pos (by omega), if_pos e]
    · rw [if_neg (by omega), if_neg e]
theorem widL_arrs (S : Nat → Bool) (s n m : Nat) (hs : S s = true) : ∀ l : List (Int × Int × Int), widL S (l.flatMap fun a => if a.1.toNat ≤ m then [(s, nd n a.2.1.toNat a.1.toNat, a.2.2)] else []) = lsum (l.map fun a => if a.1.toNat ≤ m then (if !S (nd n a.2.1.toNat a.1.toNat) then a.2.2 else 0) else 0)
  | [] => rfl
  | a :: l => by
    rw [List.flatMap_cons, widL_app, widL_arrs S s n m hs l, List.map_cons, lsum_cons]
    congr 1
    split
    · simp [widL, lsum, crossA, hs]
    · rfl
/-- Both networks have the same widths. -/
theorem wid_same {v : Vis} (hv : VisOk v) (S : Nat → Bool) (p m : Nat) (hs : S (srcN v m) = true) : widL S (netP v p m) = widL S (netD v p m) := by
  have hp : ∀ a, a ∈ v.ar → a.2.1.toNat < v.n := fun a ha => by
    have := (hv.ar a ha).2.1
    have := hv.n
    omega
  unfold netP netD arrsA
  rw [widL_app, widL_app, widL_app, widL_range, widL_range, widL_arrs S _ _ m hs, ← arrive_sum S v.n m v.ar hp, ← sumK_add]
  congr 1
  refine sumK_congr fun t _ => ?_
  rw [widL_app, widL_app, widL_range, widL_range]
  have : sumK (fun q => widL S ((srcN v m, nd v.n q t, arrive v q t) :: if t < m then [waitA v t q] else [])) v.n = sumK (fun q => if !S (nd v.n q t) then arrive v q t else 0) v.n + sumK (fun q => widL S (if t < m then [waitA v t q] else [])) v.n := by
    rw [← sumK_add]
    refine sumK_congr fun q _ => ?_
    rw [widL_cons]
    congr 1
    simp [crossA, hs]
  rw [this]
  unfold arrive
  omega
end Go.Proofs.YtomfnldlnoiloaaDoor
/- Crowd, plain: what Most and Wall answer, of either network; more room; a wall's width. -/
namespace Go.Proofs.YtomfnldlnoiloaaDoor
set_option linter.unusedVariables false
set_option linter.unusedSimpArgs false

/-- The least of the narrowest cuts of a list of arcs, and its width. -/
structure LeastL (l : List Arc3) (s t : Nat) (val : Int) (R : Nat → Bool) : Prop where
  src : R s = true
  sink : R t = false
  width : val = widL R l
  least : ∀ S : Nat → Bool, S s = true → S t = false → val ≤ widL S l
  within : ∀ S : Nat → Bool, S s = true → S t = false → widL S l = val → ∀ x, R x = true → S x = true
theorem LeastL.of_cut {l : List Arc3} {s t : Nat} {val : Int} {R : Nat → Bool} (h : LeastCut (fun i => (l.getD i (0, 0, 0)).1) (fun i => (l.getD i (0, 0, 0)).2.1) (fun i => (l.getD i (0, 0, 0)).2.2) l.length s t val R) : LeastL l s t val R :=
  ⟨h.src, h.sink, by rw [widL_wid]; exact h.width, fun S h1 h2 => by rw [widL_wid]; exact h.least S h1 h2, fun S h1 h2 h3 => h.within S h1 h2 (by rw [← widL_wid]; exact h3)⟩
theorem LeastL.uniq {l : List Arc3} {s t : Nat} {v1 v2 : Int} {R1 R2 : Nat → Bool} (h1 : LeastL l s t v1 R1) (h2 : LeastL l s t v2 R2) : v1 = v2 ∧ R1 = R2 := by
  have e : v1 = v2 := by
    have a := h1.least R2 h2.src h2.sink
    have b := h2.least R1 h1.src h1.sink
    rw [← h2.width] at a
    rw [← h1.width] at b
    omega
  refine ⟨e, funext fun x => ?_⟩
  have a := h1.within R2 h2.src h2.sink (by rw [← h2.width, e]) x
  have b := h2.within R1 h1.src h1.sink (by rw [← h1.width, e]) x
  cases c1 : R1 x <;> cases c2 : R2 x <;> simp_all
/-- Of the same widths: the same. -/
theorem LeastL.same {l k : List Arc3} {s t : Nat} {val : Int} {R : Nat → Bool} (h : LeastL l s t val R) (he : ∀ S : Nat → Bool, S s = true → widL S l = widL S k) : LeastL k s t val R :=
  ⟨h.src, h.sink, by rw [← he R h.src]; exact h.width, fun S h1 h2 => by rw [← he S h1]; exact h.least S h1 h2, fun S h1 h2 h3 => h.within S h1 h2 (by rw [he S h1]; exact h3)⟩
/-- Of greater widths: no less. -/
theorem LeastL.mono {l k : List Arc3} {s t : Nat} {v1 v2 : Int} {R1 R2 : Nat → Bool} (h1 : LeastL l s t v1 R1) (h2 : LeastL k s t v2 R2) (he : ∀ S : Nat → Bool, S s = true → S t = false → widL S l ≤ widL S k) : v1 ≤ v2 := by
  have a := h1.least R2 h2.src h2.sink
  have b := he R2 h2.src h2.sink
  rw [← h2.width] at b
  omega
/-- Of twice the widths: twice as much. -/
theorem LeastL.twice {l k : List Arc3} {s t : Nat} {v1 v2 : Int} {R1 R2 : Nat → Bool} (h1 : LeastL l s t v1 R1) (h2 : LeastL k s t v2 R2) (he : ∀ S : Nat → Bool, S s = true → S t = false → widL S k = 2 * widL S l) : v2 = 2 * v1 := by
  have a := h1.least R2 h2.src h2.sink
  have b := he R2 h2.src h2.sink
  have c := h2.least R1 h1.src h1.sink
  have d := he R1 h1.src h1.sink
  rw [← h2.width] at b
  rw [← h1.width] at d
  omega
/-- What Most and Wall tell of a visit before a view. -/
def MostIs (v : Vis) (p m : Nat) (val : Int) (R : Nat → Bool) : Prop := LeastL (netD v p m) (srcN v m) (snkN v m) val R
theorem mostP {v : Vis} (hv : VisOk v) {p m : Nat} {val : Int} {R : Nat → Bool} : LeastL (netP v p m) (srcN v m) (snkN v m) val R ↔ MostIs v p m val R :=
  ⟨fun h => h.same fun S hs => wid_same hv S p m hs, fun h => h.same fun S hs => (wid_same hv S p m hs).symm⟩
/-- Some stands as a set of nodes. -/
def setOf (v : Vis) (m : Nat) (has : Nat → Nat → Bool) (x : Nat) : Bool := if x < srcN v m then has (x % v.n) (x / v.n) else x == srcN v m
theorem setOf_src (v : Vis) (m : Nat) (has : Nat → Nat → Bool) : setOf v m has (srcN v m) = true := by unfold setOf; simp
theorem setOf_snk (v : Vis) (m : Nat) (has : Nat → Nat → Bool) : setOf v m has (snkN v m) = false := by unfold setOf snkN; rw [if_neg (by omega)]; simp
theorem nd_lt {n p t m : Nat} (hp : p < n) (ht : t ≤ m) : nd n p t < nd n 0 (m + 1) := by
  unfold nd
  have : (t + 1) * n ≤ (m + 1) * n := Nat.mul_le_mul_right n (by omega)
  rw [Nat.succ_mul] at this
  omega
theorem setOf_nd {v : Vis} {m p t : Nat} (has : Nat → Nat → Bool) (hp : p < v.n) (ht : t ≤ m) : setOf v m has (nd v.n p t) = has p t := by
  unfold setOf srcN
  rw [if_pos (nd_lt hp ht)]
  unfold nd
  rw [Nat.add_comm, Nat.add_mul_mod_self_right, Nat.mod_eq_of_lt hp, Nat.add_mul_div_right _ _ (by omega), Nat.div_eq_of_lt hp, Nat.zero_add]
/-- One trail's part of a wall's width. -/
def trailW (has : Nat → Nat → Bool) (m t : Nat) (x : Int × Int × Int × Int) : Int := if t + x.2.2.1.toNat ≤ m then (if has x.1.toNat t && !has x.2.1.toNat (t + x.2.2.1.toNat) then x.2.2.2 else 0) else 0
/-- A wall's width, as the document tells it. -/
def widthW (v : Vis) (has : Nat → Nat → Bool) (p m : Nat) : Int :=
  sumK (fun t => sumK (fun q => if has q t then (if t < m ∧ has q (t + 1) = false then v.room q else 0) + lsum (v.tr.map fun x => if x.1.toNat = q then trailW has m t x else 0) else arrive v q t) v.n) (m + 1) + if has p m then v.room p else 0
theorem trail_sum {n m t : Nat} {has : Nat → Nat → Bool} : ∀ l : List (Int × Int × Int × Int), (∀ x, x ∈ l → x.1.toNat < n) → sumK (fun q => if has q t then lsum (l.map fun x => if x.1.toNat = q then trailW has m t x else 0) else 0) n = lsum (l.map (trailW has m t))
  | [], _ => by
    rw [sumK_congr (h := fun _ => 0) fun q _ => by simp [lsum]]
    exact sumK_zero n
  | x :: l, h => by
    have ih := trail_sum (n := n) (m := m) (t := t) (has := has) l fun y hy => h y (by simp [hy])
    have hx := h x (by simp)
    rw [List.map_cons, lsum_cons, ← ih]
    rw [sumK_congr (h := fun q => (if x.1.toNat = q then trailW has m t x else 0) + (if has q t then lsum (l.map fun x => if x.1.toNat = q then trailW has m t x else 0) else 0)) fun q _ => ?_]
    · rw [sumK_add, sumK_pick, if_pos hx]
    · rw [List.map_cons, lsum_cons]
      by_cases e : x.1.toNat = q
      · subst e
        cases hh : has x.1.toNat t with
        | true => simp
        | false => simp [trailW, hh]
      · simp [e]
theorem widL_trails {v : Vis} (hv : VisOk v) (has : Nat → Nat → Bool) (m t : Nat) (ht : t ≤ m) : widL (setOf v m has) (trailsA v m t) = lsum (v.tr.map (trailW has m t)) := by
  unfold trailsA
  have key : ∀ l : List (Int × Int × Int × Int), (∀ x, x ∈ l → x ∈ v.tr) → widL (setOf v m has) (l.flatMap fun x => if t + x.2.2.1.toNat ≤ m then [(nd v.n x.1.toNat t, nd v.n x.2.1.toNat (t + x.2.2.1.toNat), x.2.2.2)] else []) = lsum (l.map (trailW has m t)) := fun l => by
    induction l with
    | nil => intro _; rfl
    | cons x l ih =>
      intro h
      rw [List.flatMap_cons, widL_app, ih fun y hy => h y (by simp [hy]), List.map_cons, lsum_cons]
      congr 1
      have hx := hv.tr x (h x (by simp))
      have h1 := hv.n
      unfold trailW
      split
      · rename_i hm
        have e1 := setOf_nd (v := v) (m := m) has (p := x.1.toNat) (t := t) (by omega) ht
        have e2 := setOf_nd (v := v) (m := m) has (p := x.2.1.toNat) (t := t + x.2.2.1.toNat) (by omega) hm
        simp [widL, lsum, crossA, e1, e2]
      · rfl
  exact key v.tr fun x hx => hx
/-- The document's width is that of the cut. -/
theorem width_cut {v : Vis} (hv : VisOk v) (has : Nat → Nat → Bool) {p m : Nat} (hp : p < v.n) : widL (setOf v m has) (netD v p m) = widthW v has p m := by
  unfold netD widthW
  have htr : ∀ x, x ∈ v.tr → x.1.toNat < v.n := fun x hx => by
    have := (hv.tr x hx).1
    have := hv.n
    omega
  rw [widL_app, widL_range]
  have hlast : widL (setOf v m has) [lastA v p m] = if has p m then v.room p else 0 := by
    have e := setOf_nd (v := v) (m := m) has hp (Nat.le_refl m)
    simp [widL, lsum, crossA, lastA, e, setOf_snk]
  rw [hlast]
  congr 1
  refine sumK_congr fun t ht => ?_
  rw [widL_app, widL_range, widL_trails hv has m t (by omega), ← trail_sum (n := v.n) v.tr htr, ← sumK_add]
  refine sumK_congr fun q hq => ?_
  rw [widL_cons]
  have e1 := setOf_nd (v := v) (m := m) has hq (show t ≤ m by omega)
  have hc : crossA (setOf v m has) (srcN v m, nd v.n q t, arrive v q t) = if has q t then 0 else arrive v q t := by
    simp only [crossA, setOf_src, e1, Bool.true_and]
    cases has q t <;> simp
  rw [hc]
  by_cases hm : t < m
  · have e2 := setOf_nd (v := v) (m := m) has hq (show t + 1 ≤ m by omega)
    have hw : widL (setOf v m has) [waitA v t q] = if has q t && !has q (t + 1) then v.room q else 0 := by
      simp [widL, lsum, crossA, waitA, e1, e2]
    rw [if_pos hm, hw]
    cases has q t <;> cases has q (t + 1) <;> simp [hm]
  · rw [if_neg hm]
    cases has q t <;> simp [widL, lsum, hm]
end Go.Proofs.YtomfnldlnoiloaaDoor
/- Crowd, plain: a search from the source: the tree that it leaves, the way back, what it reaches. -/
namespace Go.Proofs.YtomfnldlnoiloaaDoor
set_option linter.unusedVariables false
set_option linter.unusedSimpArgs false

section
variable {V : Type} {fr to : Nat → V} {cap f : Nat → Int} {m : Nat} {s : V}
/-- How much more can go along a step. -/
def roomS (cap f : Nat → Int) (p : Nat × Bool) : Int := if p.2 then cap p.1 - f p.1 else f p.1
/-- A search: the nodes in the order in which they were found, each by a step from an earlier one with room. -/
structure Tree (fr to : Nat → V) (cap f : Nat → Int) (m : Nat) (s : V) (ord : List V) (by_ : V → Nat × Bool) : Prop where
  nodup : ord.Nodup
  pos : 0 < ord.length
  head : ord[0]'pos = s
  step : ∀ k (h : k < ord.length), 0 < k → (by_ ord[k]).1 < m ∧ 0 < roomS cap f (by_ ord[k]) ∧ stepTo fr to (by_ ord[k]) = ord[k] ∧ ∃ j, ∃ hj : j < k, stepFr fr to (by_ ord[k]) = ord[j]'(by omega)
variable {ord : List V} {by_ : V → Nat × Bool}
theorem Tree.start (s : V) (by_ : V → Nat × Bool) : Tree fr to cap f m s [s] by_ :=
  ⟨by simp, by simp, rfl, fun k h h0 => by simp at h; omega⟩
/-- The way back from a node: its steps, the last one first. -/
inductive Back (fr to : Nat → V) (by_ : V → Nat × Bool) (s : V) : V → List (Nat × Bool) → Prop
  | nil : Back fr to by_ s s []
  | cons {x : V} {l : List (Nat × Bool)} : x ≠ s → Back fr to by_ s (stepFr fr to (by_ x)) l → Back fr to by_ s x (by_ x :: l)
theorem Back.uniq {x : V} {l k : List (Nat × Bool)} (h1 : Back fr to by_ s x l) (h2 : Back fr to by_ s x k) : l = k := by
  induction h1 generalizing k with
  | nil => cases h2 with
    | nil => rfl
    | cons h _ => exact absurd rfl h
  | cons hx _ ih => cases h2 with
    | nil => exact absurd rfl hx
    | cons _ h => rw [ih h]
theorem Tree.idx (h : Tree fr to cap f m s ord by_) {i j : Nat} (hi : i < ord.length) (hj : j < ord.length) (e : ord[i] = ord[j]) : i = j := by
  have hp := List.pairwise_iff_getElem.1 h.nodup
  rcases Nat.lt_trichotomy i j with a | a | a
  · exact absurd e (hp i j hi hj a)
  · exact a
  · exact absurd e.symm (hp j i hj hi a)
theorem Tree.way (h : Tree fr to cap f m s ord by_) : ∀ (k : Nat) (hk : k < ord.length), ∃ l, Back fr to by_ s ord[k] l ∧ IsWay fr to s ord[k] l.reverse ∧ (l.map (·.1)).Nodup ∧ ∀ p, p ∈ l → p.1 < m ∧ 0 < roomS cap f p ∧ (∃ a, ∃ ha : a < ord.length, a ≤ k ∧ stepFr fr to p = ord[a]) ∧ ∃ b, ∃ hb : b < ord.length, b ≤ k ∧ stepTo fr to p = ord[b] := fun k => by
  induction k using Nat.strongRecOn with
  | ind k ih =>
    intro hk
    by_cases h0 : k = 0
    · subst h0
      refine ⟨[], ?_, ?_, by simp, fun p hp => by cases hp⟩
      · rw [h.head]; exact Back.nil
      · exact h.head.symm
    · obtain ⟨h1, h2, h3, j, hj, h4⟩ := h.step k hk (by omega)
      obtain ⟨l, b1, b2, b3, b4⟩ := ih j hj (by omega)
      have hne : ord[k] ≠ s := fun e => by
        rw [← h.head] at e
        have := h.idx hk h.pos e
        omega
      refine ⟨by_ ord[k] :: l, Back.cons hne (by rw [h4]; exact b1), ?_, ?_, fun p hp => ?_⟩
      · rw [List.reverse_cons]
        refine b2.app ?_
        exact ⟨h4, h3⟩
      · rw [List.map_cons, List.nodup_cons]
        refine ⟨fun hm => ?_, b3⟩
        obtain ⟨q, hq, e⟩ := List.mem_map.1 hm
        obtain ⟨_, _, ⟨a, ha, hak, e1⟩, b, hb, hbk, e2⟩ := b4 q hq
        have key : stepTo fr to (by_ ord[k]) = stepTo fr to q ∨ stepTo fr to (by_ ord[k]) = stepFr fr to q := by
          unfold stepTo stepFr
          rw [e]
          cases q.2 <;> cases (by_ ord[k]).2 <;> simp
        rw [h3] at key
        rcases key with e3 | e3
        · rw [e2] at e3
          have := h.idx hk hb e3
          omega
        · rw [e1] at e3
          have := h.idx hk ha e3
          omega
      · rcases List.mem_cons.1 hp with rfl | hp
        · exact ⟨h1, h2, ⟨j, by omega, by omega, h4⟩, k, hk, Nat.le_refl _, h3⟩
        · obtain ⟨c1, c2, ⟨a, ha, hak, e1⟩, b, hb, hbk, e2⟩ := b4 p hp
          exact ⟨c1, c2, ⟨a, ha, by omega, e1⟩, b, hb, by omega, e2⟩
/-- Each set that is closed has all that was found. -/
theorem Tree.sub (h : Tree fr to cap f m s ord by_) {S : V → Bool} (hS : Closed fr to cap f m s S) : ∀ (k : Nat) (hk : k < ord.length), S ord[k] = true := fun k => by
  induction k using Nat.strongRecOn with
  | ind k ih =>
    intro hk
    by_cases h0 : k = 0
    · subst h0
      rw [h.head]
      exact hS.src
    · obtain ⟨h1, h2, h3, j, hj, h4⟩ := h.step k hk (by omega)
      have hi := ih j hj (by omega)
      rw [← h4] at hi
      rw [← h3]
      unfold roomS at h2
      unfold stepFr at hi
      unfold stepTo
      cases hb : (by_ ord[k]).2 with
      | true =>
        rw [hb] at h2 hi
        simp only [if_true] at h2 hi ⊢
        exact hS.arc _ h1 hi (by omega)
      | false =>
        rw [hb] at h2 hi
        simp only [Bool.false_eq_true, if_false] at h2 hi ⊢
        exact hS.back _ h1 hi h2
end
/-- The order of a way's steps makes no difference. -/
theorem fold_rev {c : Int} {f : Nat → Int} {l : List (Nat × Bool)} (hn : (l.map (·.1)).Nodup) : l.reverse.foldl (upd c) f = l.foldl (upd c) f := funext fun j => by
  have hr : (l.reverse.map (·.1)).Nodup := by
    rw [List.map_reverse]
    show List.Pairwise _ _
    rw [List.pairwise_reverse]
    exact hn.imp fun h => h.symm
  obtain ⟨a1, a2, a3⟩ := way_at (c := c) (j := j) (f := f) hn
  obtain ⟨b1, b2, b3⟩ := way_at (c := c) (j := j) (f := f) hr
  by_cases e1 : (j, true) ∈ l
  · rw [a2 e1, b2 (List.mem_reverse.2 e1)]
  · by_cases e2 : (j, false) ∈ l
    · rw [a3 e2, b3 (List.mem_reverse.2 e2)]
    · rw [a1 fun b hb => by cases b <;> contradiction, b1 fun b hb => by cases b <;> (have := List.mem_reverse.1 hb; contradiction)]
end Go.Proofs.YtomfnldlnoiloaaDoor
/- Crowd, plain: the search as the texts go: which steps it finds, in which order. -/
namespace Go.Proofs.YtomfnldlnoiloaaDoor
set_option linter.unusedVariables false
set_option linter.unusedSimpArgs false

abbrev Stp := Nat × Bool
def frL (L : List Arc3) (i : Nat) : Nat := (L.getD i (0, 0, 0)).1
def toL (L : List Arc3) (i : Nat) : Nat := (L.getD i (0, 0, 0)).2.1
def capL (L : List Arc3) (i : Nat) : Int := (L.getD i (0, 0, 0)).2.2
theorem len_nodup : ∀ (n : Nat) (l : List Nat), l.Nodup → (∀ x ∈ l, x < n) → l.length ≤ n
  | 0, l, _, h => by
    cases l with
    | nil => simp
    | cons a l => exact absurd (h a (by simp)) (by omega)
  | n + 1, l, hn, h => by
    have h1 := len_nodup n (l.erase n) (hn.erase n) fun x hx => by
      have := h x (List.mem_of_mem_erase hx)
      have hne : x ≠ n := fun e => by
        subst e
        exact (List.Nodup.mem_erase_iff hn).1 hx |>.1 rfl
      omega
    have h2 := List.length_erase (a := n) (l := l)
    split at h2 <;> omega
section
variable (to_ : Stp → Nat) (room : Stp → Int) (outs : Nat → List Stp) (s : Nat)
/-- What was found: the source, then where each step leads. -/
def ordS (ys : List Stp) : List Nat := s :: ys.map to_
/-- One step is looked at. -/
def scan (ys : List Stp) (p : Stp) : List Stp := if room p = 0 ∨ to_ p ∈ ordS to_ s ys then ys else ys ++ [p]
def scans (ys ps : List Stp) : List Stp := ps.foldl (scan to_ room s) ys
/-- The steps that are found behind k nodes. -/
def bfs : Nat → List Stp
  | 0 => []
  | k + 1 => match (ordS to_ s (bfs k))[k]? with
    | some x => scans to_ room s (bfs k) (outs x)
    | none => bfs k
end
variable {to_ fr_ : Stp → Nat} {room : Stp → Int} {outs : Nat → List Stp} {s : Nat}
theorem ordS_len (ys : List Stp) : (ordS to_ s ys).length = ys.length + 1 := by simp [ordS]
theorem ordS_app (ys zs : List Stp) : ordS to_ s (ys ++ zs) = ordS to_ s ys ++ zs.map to_ := by simp [ordS]
theorem ordS_pre {ys zs : List Stp} (h : ys <+: zs) : ordS to_ s ys <+: ordS to_ s zs := by
  obtain ⟨r, rfl⟩ := h
  rw [ordS_app]
  exact List.prefix_append _ _
theorem scan_pre (ys : List Stp) (p : Stp) : ys <+: scan to_ room s ys p := by
  unfold scan
  split
  · exact List.prefix_refl _
  · exact List.prefix_append _ _
theorem scans_nil (ys : List Stp) : scans to_ room s ys [] = ys := rfl
theorem scans_cons (ys : List Stp) (p : Stp) (ps : List Stp) : scans to_ room s ys (p :: ps) = scans to_ room s (scan to_ room s ys p) ps := rfl
theorem scans_app (ys a b : List Stp) : scans to_ room s ys (a ++ b) = scans to_ room s (scans to_ room s ys a) b := by simp [scans]
theorem scans_pre : ∀ (ps ys : List Stp), ys <+: scans to_ room s ys ps
  | [], ys => List.prefix_refl _
  | p :: ps, ys => (scan_pre ys p).trans (scans_pre ps _)
theorem bfs_some {k x : Nat} (h : (ordS to_ s (bfs to_ room outs s k))[k]? = some x) : bfs to_ room outs s (k + 1) = scans to_ room s (bfs to_ room outs s k) (outs x) := by
  rw [bfs, h]
theorem bfs_none {k : Nat} (h : (bfs to_ room outs s k).length + 1 ≤ k) : bfs to_ room outs s (k + 1) = bfs to_ room outs s k := by
  rw [bfs, List.getElem?_eq_none (by rw [ordS_len]; exact h)]
theorem bfs_pre1 (k : Nat) : bfs to_ room outs s k <+: bfs to_ room outs s (k + 1) := by
  cases h : (ordS to_ s (bfs to_ room outs s k))[k]? with
  | some x => rw [bfs_some h]; exact scans_pre _ _
  | none => rw [bfs, h]; exact List.prefix_refl _
theorem bfs_pre {k : Nat} : ∀ d : Nat, bfs to_ room outs s k <+: bfs to_ room outs s (k + d)
  | 0 => List.prefix_refl _
  | d + 1 => (bfs_pre d).trans (bfs_pre1 (k + d))
theorem bfs_stop {k : Nat} (h : (bfs to_ room outs s k).length + 1 ≤ k) : ∀ d : Nat, bfs to_ room outs s (k + d) = bfs to_ room outs s k
  | 0 => rfl
  | d + 1 => by
    have ih := bfs_stop h d
    show bfs to_ room outs s (k + d + 1) = _
    rw [bfs_none (by rw [ih]; omega), ih]
/-- A search so far: each node once, each by a step with room out of one that was found ahead of it. -/
structure Srch (to_ fr_ : Stp → Nat) (room : Stp → Int) (s : Nat) (ys : List Stp) : Prop where
  nodup : (ordS to_ s ys).Nodup
  from_ : ∀ i (h : i < ys.length), room ys[i] ≠ 0 ∧ ∃ j, j ≤ i ∧ (ordS to_ s ys)[j]? = some (fr_ ys[i])
theorem Srch.nil : Srch to_ fr_ room s [] := ⟨by simp [ordS], fun i h => absurd h (by simp)⟩
theorem Srch.scan {ys : List Stp} (h : Srch to_ fr_ room s ys) {p : Stp} (hp : fr_ p ∈ ordS to_ s ys) : Srch to_ fr_ room s (scan to_ room s ys p) := by
  unfold Go.Proofs.YtomfnldlnoiloaaDoor.scan
  split
  · exact h
  · rename_i hno
    rw [not_or] at hno
    refine ⟨?_, fun i hi => ?_⟩
    · rw [ordS_app, List.nodup_append]
      refine ⟨h.nodup, by simp, fun a ha b hb e => ?_⟩
      simp at hb
      subst hb
      subst e
      exact hno.2 ha
    · by_cases hc : i < ys.length
      · obtain ⟨h1, j, h2, h3⟩ := h.from_ i hc
        rw [List.getElem_append_left hc]
        refine ⟨h1, j, h2, ?_⟩
        rw [ordS_app, List.getElem?_append_left (by rw [ordS_len]; omega)]
        exact h3
      · have hi2 : i = ys.length := by simp at hi; omega
        subst hi2
        have e : (ys ++ [p])[ys.length] = p := by simp
        rw [e]
        obtain ⟨j, hj, hj2⟩ := List.getElem_of_mem hp
        refine ⟨hno.1, j, ?_, ?_⟩
        · rw [ordS_len] at hj; omega
        · rw [ordS_app, List.getElem?_append_left hj, List.getElem?_eq_getElem hj, hj2]
theorem Srch.scans : ∀ {ps ys : List Stp}, Srch to_ fr_ room s ys → (∀ p, p ∈ ps → fr_ p ∈ ordS to_ s ys) → Srch to_ fr_ room s (scans to_ room s ys ps)
  | [], ys, h, _ => h
  | p :: ps, ys, h, hp => by
    rw [scans_cons]
    exact (h.scan (hp p (by simp))).scans fun q hq => (ordS_pre (scan_pre ys p)).mem (hp q (by simp [hq]))
theorem Srch.bfs (ho : ∀ x p, p ∈ outs x → fr_ p = x) : ∀ k : Nat, Srch to_ fr_ room s (bfs to_ room outs s k)
  | 0 => Srch.nil
  | k + 1 => by
    have ih : Srch to_ fr_ room s (Go.Proofs.YtomfnldlnoiloaaDoor.bfs to_ room outs s k) := Srch.bfs ho k
    cases h : (ordS to_ s (Go.Proofs.YtomfnldlnoiloaaDoor.bfs to_ room outs s k))[k]? with
    | some x =>
      rw [bfs_some h]
      exact ih.scans fun p hp => by rw [ho x p hp]; exact List.mem_of_getElem? h
    | none => rw [Go.Proofs.YtomfnldlnoiloaaDoor.bfs, h]; exact ih
theorem Srch.pre {ys zs : List Stp} (h : Srch to_ fr_ room s zs) (hp : ys <+: zs) : Srch to_ fr_ room s ys := by
  have ho := ordS_pre (to_ := to_) (s := s) hp
  refine ⟨h.nodup.sublist ho.sublist, fun i hi => ?_⟩
  have hi2 : i < zs.length := Nat.lt_of_lt_of_le hi hp.length_le
  obtain ⟨h1, j, h2, h3⟩ := h.from_ i hi2
  have e : ys[i] = zs[i] := hp.getElem hi
  rw [e]
  refine ⟨h1, j, h2, ?_⟩
  rw [← h3]
  obtain ⟨r, hr⟩ := ho
  rw [← hr, List.getElem?_append_left (by rw [ordS_len]; omega)]
theorem scans_mem {q : Stp} : ∀ {ps ys : List Stp}, q ∈ scans to_ room s ys ps → q ∈ ys ∨ q ∈ ps
  | [], ys, h => .inl h
  | p :: ps, ys, h => by
    rw [scans_cons] at h
    rcases scans_mem h with h | h
    · unfold scan at h
      split at h
      · exact .inl h
      · rcases List.mem_append.1 h with h | h
        · exact .inl h
        · simp at h
          exact .inr (by simp [h])
    · exact .inr (by simp [h])
theorem bfs_mem {q : Stp} : ∀ {k : Nat}, q ∈ bfs to_ room outs s k → ∃ x, q ∈ outs x
  | 0, h => by cases h
  | k + 1, h => by
    cases hx : (ordS to_ s (bfs to_ room outs s k))[k]? with
    | some x =>
      rw [bfs_some hx] at h
      rcases scans_mem h with h | h
      · exact bfs_mem h
      · exact ⟨x, h⟩
    | none => rw [bfs, hx] at h; exact bfs_mem h
theorem scans_all : ∀ {ps ys : List Stp} {p : Stp}, p ∈ ps → room p ≠ 0 → to_ p ∈ ordS to_ s (scans to_ room s ys ps)
  | [], _, _, h, _ => by cases h
  | q :: ps, ys, p, h, hr => by
    rw [scans_cons]
    rcases List.mem_cons.1 h with rfl | h
    · refine (ordS_pre (scans_pre ps _)).mem ?_
      unfold scan
      split
      · rename_i hc
        exact hc.resolve_left hr
      · rw [ordS_app]; simp
    · exact scans_all h hr
/-- All is found behind as many nodes as there are. -/
theorem bfs_len (ho : ∀ x p, p ∈ outs x → fr_ p = x) {N : Nat} (hs : s < N) (ht : ∀ x p, p ∈ outs x → to_ p < N) (k : Nat) : (bfs to_ room outs s k).length + 1 ≤ N := by
  rw [← ordS_len (to_ := to_) (s := s)]
  refine len_nodup N _ (Srch.bfs ho k).nodup fun x hx => ?_
  unfold ordS at hx
  rcases List.mem_cons.1 hx with rfl | hx
  · exact hs
  · obtain ⟨p, hp, rfl⟩ := List.mem_map.1 hx
    obtain ⟨y, hy⟩ := bfs_mem hp
    exact ht y p hy
theorem bfs_end {N k : Nat} (h : (bfs to_ room outs s k).length + 1 ≤ k) (hk : k ≤ N) : bfs to_ room outs s k = bfs to_ room outs s N := by
  have := bfs_stop h (N - k)
  rw [show k + (N - k) = N by omega] at this
  exact this.symm
theorem bfs_closed (ho : ∀ x p, p ∈ outs x → fr_ p = x) {N : Nat} (hs : s < N) (ht : ∀ x p, p ∈ outs x → to_ p < N) {x : Nat} {p : Stp} (hx : x ∈ ordS to_ s (bfs to_ room outs s N)) (hp : p ∈ outs x) (hr : room p ≠ 0) : to_ p ∈ ordS to_ s (bfs to_ room outs s N) := by
  obtain ⟨k, hk, e⟩ := List.getElem_of_mem hx
  have hl := bfs_len (room := room) (s := s) ho hs ht N
  rw [ordS_len] at hk
  have hpre : bfs to_ room outs s k <+: bfs to_ room outs s N := by
    have := bfs_pre (to_ := to_) (room := room) (outs := outs) (s := s) (k := k) (N - k)
    rwa [show k + (N - k) = N by omega] at this
  have hpre2 : bfs to_ room outs s (k + 1) <+: bfs to_ room outs s N := by
    have := bfs_pre (to_ := to_) (room := room) (outs := outs) (s := s) (k := k + 1) (N - (k + 1))
    rwa [show k + 1 + (N - (k + 1)) = N by omega] at this
  by_cases hc : (bfs to_ room outs s k).length + 1 ≤ k
  · rw [bfs_end (N := N) hc (by omega)] at hc
    omega
  · have hkx : (ordS to_ s (bfs to_ room outs s k))[k]? = some x := by
      obtain ⟨r, hr⟩ := ordS_pre (to_ := to_) (s := s) hpre
      have h2 : (ordS to_ s (bfs to_ room outs s N))[k]? = some x := by rw [List.getElem?_eq_getElem (by rw [ordS_len]; exact hk), e]
      have hkl : k < (ordS to_ s (bfs to_ room outs s k)).length := by rw [ordS_len]; omega
      rw [← hr, List.getElem?_append_left hkl] at h2
      exact h2
    refine (ordS_pre hpre2).mem ?_
    rw [bfs_some hkx]
    exact scans_all hp hr
/-- The step by which a node was found. -/
def byOf (to_ : Stp → Nat) (ys : List Stp) (x : Nat) : Stp := (ys.find? fun p => to_ p == x).getD (0, true)
theorem byOf_at {ys : List Stp} (h : Srch to_ fr_ room s ys) {i : Nat} (hi : i < ys.length) : byOf to_ ys (to_ ys[i]) = ys[i] := by
  unfold byOf
  have hn : (ys.map to_).Nodup := (List.nodup_cons.1 h.nodup).2
  have hp := List.pairwise_iff_getElem.1 hn
  have : (ys.find? fun p => to_ p == to_ ys[i]) = some ys[i] := by
    rw [List.find?_eq_some_iff_getElem]
    refine ⟨by simp, i, hi, rfl, fun j hj => ?_⟩
    have := hp j i (by simp; omega) (by simpa using hi) hj
    simpa using this
  rw [this]
  rfl
/-- The arcs out of a node, in the order in which they were added. -/
def outsA (L : List Arc3) (x i : Nat) : List Stp := (if frL L i = x then [(i, true)] else []) ++ (if toL L i = x then [(i, false)] else [])
def outsL (L : List Arc3) (x : Nat) : List Stp := (List.range L.length).flatMap (outsA L x)
theorem outsL_snoc (L : List Arc3) (a : Arc3) (x : Nat) : outsL (L ++ [a]) x = outsL L x ++ ((if a.1 = x then [(L.length, true)] else []) ++ (if a.2.1 = x then [(L.length, false)] else [])) := by
  unfold outsL
  rw [List.length_append, List.length_singleton, List.range_succ, List.flatMap_append]
  congr 1
  · refine congrArg List.flatten (List.map_congr_left fun i hi => ?_)
    have hi := List.mem_range.1 hi
    have e : (L ++ [a]).getD i (0, 0, 0) = L.getD i (0, 0, 0) := by
      simp [List.getD_eq_getElem?_getD, List.getElem?_append_left hi]
    unfold outsA frL toL
    rw [e]
  · have e : (L ++ [a]).getD L.length (0, 0, 0) = a := by simp [List.getD_eq_getElem?_getD]
    simp [outsA, frL, toL, e]
theorem outsL_mem {L : List Arc3} {x : Nat} {p : Stp} : p ∈ outsL L x ↔ p.1 < L.length ∧ stepFr (frL L) (toL L) p = x := by
  obtain ⟨i, b⟩ := p
  unfold outsL outsA stepFr
  simp only [List.mem_flatMap, List.mem_range, List.mem_append]
  constructor
  · rintro ⟨j, hj, h | h⟩
    · split at h
      · simp at h
        obtain ⟨rfl, rfl⟩ := h
        rename_i e
        exact ⟨hj, by simpa using e⟩
      · cases h
    · split at h
      · simp at h
        obtain ⟨rfl, rfl⟩ := h
        rename_i e
        exact ⟨hj, by simpa using e⟩
      · cases h
  · rintro ⟨h1, h2⟩
    refine ⟨i, h1, ?_⟩
    cases b
    · right; simp at h2; simp [h2]
    · left; simp at h2; simp [h2]
theorem outsL_lt {L : List Arc3} {x : Nat} : (outsL L x).length ≤ 2 * L.length := by
  unfold outsL
  have key : ∀ k, ((List.range k).flatMap (outsA L x)).length ≤ 2 * k := fun k => by
    induction k with
    | zero => simp
    | succ k ih =>
      rw [List.range_succ, List.flatMap_append, List.length_append]
      have : ([k].flatMap (outsA L x)).length ≤ 2 := by
        simp only [List.flatMap_cons, List.flatMap_nil, List.append_nil, outsA]
        split <;> split <;> simp
      omega
  exact key _
end Go.Proofs.YtomfnldlnoiloaaDoor
/- Crowd, plain: when no more goes, the search tells the least of the narrowest cuts; else there is a way. -/
namespace Go.Proofs.YtomfnldlnoiloaaDoor
set_option linter.unusedVariables false
set_option linter.unusedSimpArgs false

abbrev stF (L : List Arc3) (p : Stp) : Nat := stepFr (frL L) (toL L) p
abbrev stT (L : List Arc3) (p : Stp) : Nat := stepTo (frL L) (toL L) p
abbrev roomL (L : List Arc3) (f : Nat → Int) (p : Stp) : Int := roomS (capL L) f p
def bfsL (L : List Arc3) (f : Nat → Int) (s k : Nat) : List Stp := bfs (stT L) (roomL L f) (outsL L) s k
def ordL (L : List Arc3) (s : Nat) (ys : List Stp) : List Nat := ordS (stT L) s ys
structure NetOk (L : List Arc3) (N s : Nat) : Prop where
  ends : ∀ a, a ∈ L → a.1 < N ∧ a.2.1 < N
  cap : ∀ a, a ∈ L → 0 ≤ a.2.2 ∧ a.2.2 ≤ 100000
  src : s < N
theorem arc_mem {L : List Arc3} {i : Nat} (h : i < L.length) : (frL L i, toL L i, capL L i) ∈ L := by
  have e : L.getD i (0, 0, 0) = L[i] := by simp [List.getD_eq_getElem?_getD, h]
  unfold frL toL capL
  rw [e]
  exact List.getElem_mem h
theorem NetOk.fr {L : List Arc3} {N s i : Nat} (h : NetOk L N s) (hi : i < L.length) : frL L i < N := (h.ends _ (arc_mem hi)).1
theorem NetOk.to {L : List Arc3} {N s i : Nat} (h : NetOk L N s) (hi : i < L.length) : toL L i < N := (h.ends _ (arc_mem hi)).2
theorem NetOk.capi {L : List Arc3} {N s i : Nat} (h : NetOk L N s) (hi : i < L.length) : 0 ≤ capL L i ∧ capL L i ≤ 100000 := h.cap _ (arc_mem hi)
theorem NetOk.stT {L : List Arc3} {N s : Nat} (h : NetOk L N s) {x : Nat} {p : Stp} (hp : p ∈ outsL L x) : stT L p < N := by
  have := (outsL_mem.1 hp).1
  unfold Go.Proofs.YtomfnldlnoiloaaDoor.stT stepTo
  split
  · exact h.to this
  · exact h.fr this
abbrev FlowL (L : List Arc3) (N s t : Nat) (f : Nat → Int) : Prop := Flow (frL L) (toL L) (capL L) L.length (List.range N) s t f
theorem outs_from {L : List Arc3} : ∀ x p, p ∈ outsL L x → stF L p = x := fun _ _ h => (outsL_mem.1 h).2
theorem bfsL_srch (L : List Arc3) (f : Nat → Int) (s k : Nat) : Srch (stT L) (stF L) (roomL L f) s (bfsL L f s k) := Srch.bfs outs_from k
theorem room_pos {L : List Arc3} {N s t : Nat} {f : Nat → Int} (hF : FlowL L N s t f) {p : Stp} (hp : p.1 < L.length) : 0 ≤ roomL L f p ∧ roomL L f p ≤ capL L p.1 := by
  have := hF.lo p.1 hp
  unfold roomL roomS
  split <;> omega
theorem tree_of {L : List Arc3} {N s t : Nat} {f : Nat → Int} (hF : FlowL L N s t f) {ys : List Stp} (h : Srch (stT L) (stF L) (roomL L f) s ys) (hl : ∀ p, p ∈ ys → p.1 < L.length) :
    Tree (frL L) (toL L) (capL L) f L.length s (ordL L s ys) (byOf (stT L) ys) := by
  refine ⟨h.nodup, by simp [ordL, ordS], rfl, fun k hk h0 => ?_⟩
  obtain ⟨j, rfl⟩ : ∃ j, k = j + 1 := ⟨k - 1, by omega⟩
  have hj : j < ys.length := by unfold ordL at hk; rw [ordS_len] at hk; omega
  have e : (ordL L s ys)[j + 1] = stT L ys[j] := by simp [ordL, ordS]
  have hm := hl _ (List.getElem_mem hj)
  obtain ⟨h1, i, h2, h3⟩ := h.from_ j hj
  rw [e, byOf_at h hj]
  have hr := (room_pos hF hm).1
  refine ⟨hm, by have : roomL L f ys[j] ≠ 0 := h1; show 0 < roomL L f ys[j]; omega, rfl, i, by omega, ?_⟩
  have hi : i < (ordS (stT L) s ys).length := by rw [ordS_len]; omega
  rw [List.getElem?_eq_getElem hi] at h3
  exact (Option.some.inj h3).symm
theorem bfsL_arcs {L : List Arc3} {f : Nat → Int} {s k : Nat} : ∀ p, p ∈ bfsL L f s k → p.1 < L.length := fun p hp => by
  obtain ⟨x, hx⟩ := bfs_mem hp
  exact (outsL_mem.1 hx).1
def reachL (L : List Arc3) (f : Nat → Int) (s N : Nat) (x : Nat) : Bool := decide (x ∈ ordL L s (bfsL L f s N))
/-- No more goes: the search tells the least of the narrowest cuts. -/
theorem least_of {L : List Arc3} {N s t : Nat} {f : Nat → Int} (hN : NetOk L N s) (hF : FlowL L N s t f) (ht : t ∉ ordL L s (bfsL L f s N)) :
    LeastL L s t (outAt (frL L) (toL L) f L.length s) (reachL L f s N) := by
  have hT := tree_of hF (bfsL_srch L f s N) bfsL_arcs
  have hcl : ∀ {x p}, x ∈ ordL L s (bfsL L f s N) → p ∈ outsL L x → roomL L f p ≠ 0 → stT L p ∈ ordL L s (bfsL L f s N) := fun hx hp hr => bfs_closed outs_from hN.src (fun _ _ h => hN.stT h) hx hp hr
  refine LeastL.of_cut (Flow.cut hF (R := reachL L f s N) ⟨?_, fun i hi h1 h2 => ?_, fun i hi h1 h2 => ?_⟩ (fun S hS x hx => ?_) ?_)
  · simp [reachL, ordL, ordS]
  · have h1 := of_decide_eq_true h1
    refine decide_eq_true (hcl (p := (i, true)) h1 (outsL_mem.2 ⟨hi, rfl⟩) ?_)
    show capL L i - f i ≠ 0
    have : f i < capL L i := h2
    omega
  · have h1 := of_decide_eq_true h1
    refine decide_eq_true (hcl (p := (i, false)) h1 (outsL_mem.2 ⟨hi, rfl⟩) ?_)
    show f i ≠ 0
    omega
  · obtain ⟨k, hk, e⟩ := List.getElem_of_mem (of_decide_eq_true hx)
    rw [← e]
    exact hT.sub hS k hk
  · exact decide_eq_false ht
/-- How much goes along a way. -/
def minR (room : Stp → Int) (l : List Stp) (c : Int) : Int := l.foldl (fun c p => min c (room p)) c
theorem minR_le {room : Stp → Int} : ∀ {l : List Stp} {c : Int}, minR room l c ≤ c ∧ ∀ p, p ∈ l → minR room l c ≤ room p
  | [], c => ⟨Int.le_refl _, fun p h => by cases h⟩
  | q :: l, c => by
    obtain ⟨h1, h2⟩ := minR_le (room := room) (l := l) (c := min c (room q))
    have e : minR room (q :: l) c = minR room l (min c (room q)) := rfl
    rw [e]
    refine ⟨by omega, fun p hp => ?_⟩
    rcases List.mem_cons.1 hp with rfl | hp
    · omega
    · exact h2 p hp
theorem minR_pos {room : Stp → Int} : ∀ {l : List Stp} {c : Int}, 0 < c → (∀ p, p ∈ l → 0 < room p) → 0 < minR room l c
  | [], c, h, _ => h
  | q :: l, c, h, hl => minR_pos (l := l) (c := min c (room q)) (by have := hl q (by simp); omega) fun p hp => hl p (by simp [hp])
theorem minR_snoc (room : Stp → Int) (l : List Stp) (p : Stp) (c : Int) : minR room (l ++ [p]) c = min (minR room l c) (room p) := by simp [minR]
/-- The way back from a node that was found, and what goes along it. -/
theorem way_of {L : List Arc3} {N s t : Nat} {f : Nat → Int} (hF : FlowL L N s t f) (hst : s ≠ t) {ys : List Stp} (h : Srch (stT L) (stF L) (roomL L f) s ys) (hl : ∀ p, p ∈ ys → p.1 < L.length) (ht : t ∈ ordL L s ys) {c0 : Int} (hc0 : 0 < c0) :
    ∃ l, Back (frL L) (toL L) (byOf (stT L) ys) s t l ∧ 0 < minR (roomL L f) l c0 ∧ (∀ p, p ∈ l → p ∈ ys ∧ minR (roomL L f) l c0 ≤ roomL L f p) ∧ (l.map (·.1)).Nodup ∧ l.length ≤ L.length ∧
      FlowL L N s t (l.foldl (upd (minR (roomL L f) l c0)) f) ∧ outAt (frL L) (toL L) (l.foldl (upd (minR (roomL L f) l c0)) f) L.length s = outAt (frL L) (toL L) f L.length s + minR (roomL L f) l c0 := by
  have hT := tree_of hF h hl
  obtain ⟨k, hk, e⟩ := List.getElem_of_mem ht
  obtain ⟨l, b1, b2, b3, b4⟩ := hT.way k hk
  rw [e] at b1 b2
  have hpos : 0 < minR (roomL L f) l c0 := minR_pos hc0 fun p hp => (b4 p hp).2.1
  have hle := (minR_le (room := roomL L f) (l := l) (c := c0)).2
  have hmem : ∀ {x : Nat} {l : List Stp}, Back (frL L) (toL L) (byOf (stT L) ys) s x l → x ∈ ordL L s ys → ∀ p, p ∈ l → p ∈ ys := fun {x l} hb => by
    induction hb with
    | nil => intro _ p hp; cases hp
    | @cons x l hx _ ih =>
      intro hxo p hp
      obtain ⟨k, hk, e⟩ := List.getElem_of_mem hxo
      have h0 : 0 < k := Nat.pos_of_ne_zero fun h0 => by
        subst h0
        exact hx (by rw [← e]; rfl)
      obtain ⟨j, rfl⟩ : ∃ j, k = j + 1 := ⟨k - 1, by omega⟩
      have hj : j < ys.length := by unfold ordL at hk; rw [ordS_len] at hk; omega
      have e2 : x = stT L ys[j] := by rw [← e]; simp [ordL, ordS]
      have hb : byOf (stT L) ys x = ys[j] := by rw [e2]; exact byOf_at h hj
      rcases List.mem_cons.1 hp with rfl | hp
      · rw [hb]; exact List.getElem_mem hj
      · refine ih ?_ p hp
        rw [hb]
        obtain ⟨_, i, _, h3⟩ := h.from_ j hj
        exact List.mem_of_getElem? h3
  have hn2 : ((l.reverse).map (·.1)).Nodup := by
    rw [List.map_reverse]
    show List.Pairwise _ _
    rw [List.pairwise_reverse]
    exact b3.imp fun h => h.symm
  obtain ⟨f1, f2⟩ := hF.more b2 hn2 (Int.le_of_lt hpos) (fun p hp => by
    have hp := List.mem_reverse.1 hp
    have h1 := hle p hp
    refine ⟨(b4 p hp).1, fun hb => ?_, fun hb => ?_⟩
    · have : roomL L f p = capL L p.1 - f p.1 := by unfold roomL roomS; rw [hb]; rfl
      omega
    · have : roomL L f p = f p.1 := by unfold roomL roomS; rw [hb]; rfl
      omega) hst
  rw [fold_rev b3] at f1 f2
  refine ⟨l, b1, hpos, fun p hp => ⟨hmem b1 ht p hp, hle p hp⟩, b3, ?_, f1, f2⟩
  have h1 := len_nodup L.length (l.map (·.1)) b3 fun x hx => by
    obtain ⟨p, hp, rfl⟩ := List.mem_map.1 hx
    exact (b4 p hp).1
  simpa using h1
/-- How much can go at most: what the sink takes. -/
theorem flow_most {L : List Arc3} {N s t : Nat} {f : Nat → Int} (hF : FlowL L N s t f) (hst : s ≠ t) : outAt (frL L) (toL L) f L.length s ≤ widL (fun x => x != t) L := by
  rw [widL_wid]
  exact hF.le (by simpa using hst) (by simp)
theorem flow_zero {L : List Arc3} {N s t : Nat} (h : NetOk L N s) : FlowL L N s t (fun _ => 0) ∧ outAt (frL L) (toL L) (fun _ => 0) L.length s = 0 := by
  obtain ⟨h1, h2⟩ := Flow.zero (fr := frL L) (to := toL L) (cap := capL L) (m := L.length) (nodes := List.range N) (s := s) (t := t) List.nodup_range (fun i hi => ⟨List.mem_range.2 (h.fr hi), List.mem_range.2 (h.to hi)⟩) (List.mem_range.2 h.src) (fun i hi => (h.capi hi).1)
  exact ⟨h1, h2 s⟩
end Go.Proofs.YtomfnldlnoiloaaDoor
/- Crowd, plain: the arcs of the program's network, one after the other; both networks are sound. -/
namespace Go.Proofs.YtomfnldlnoiloaaDoor
set_option linter.unusedVariables false
set_option linter.unusedSimpArgs false

def waitsT (v : Vis) (m t q : Nat) : List Arc3 := (List.range q).flatMap fun q => if t < m then [waitA v t q] else []
def trailsJ (v : Vis) (m t j : Nat) : List Arc3 := (v.tr.take j).flatMap fun x => if t + x.2.2.1.toNat ≤ m then [(nd v.n x.1.toNat t, nd v.n x.2.1.toNat (t + x.2.2.1.toNat), x.2.2.2)] else []
def arrsJ (v : Vis) (m j : Nat) : List Arc3 := (v.ar.take j).flatMap fun a => if a.1.toNat ≤ m then [(srcN v m, nd v.n a.2.1.toNat a.1.toNat, a.2.2)] else []
def pT (v : Vis) (m t : Nat) : List Arc3 := (List.range t).flatMap fun t => waitsT v m t v.n ++ trailsA v m t
def pW (v : Vis) (m t q : Nat) : List Arc3 := pT v m t ++ waitsT v m t q
def pR (v : Vis) (m t j : Nat) : List Arc3 := pT v m t ++ (waitsT v m t v.n ++ trailsJ v m t j)
def pA (v : Vis) (m j : Nat) : List Arc3 := pT v m (m + 1) ++ arrsJ v m j
theorem pT_zero (v : Vis) (m : Nat) : pT v m 0 = [] := rfl
theorem pW_zero (v : Vis) (m t : Nat) : pW v m t 0 = pT v m t := by simp [pW, waitsT]
theorem pW_succ (v : Vis) (m t q : Nat) : pW v m t (q + 1) = pW v m t q ++ (if t < m then [waitA v t q] else []) := by
  simp [pW, waitsT, List.range_succ]
theorem pR_zero (v : Vis) (m t : Nat) : pR v m t 0 = pW v m t v.n := by simp [pR, pW, trailsJ]
theorem pR_succ (v : Vis) (m t : Nat) {j : Nat} (hj : j < v.tr.length) : pR v m t (j + 1) = pR v m t j ++ (if t + v.tr[j].2.2.1.toNat ≤ m then [(nd v.n v.tr[j].1.toNat t, nd v.n v.tr[j].2.1.toNat (t + v.tr[j].2.2.1.toNat), v.tr[j].2.2.2)] else []) := by
  unfold pR trailsJ
  rw [List.take_succ_eq_append_getElem hj, List.flatMap_append]
  simp
theorem pT_succ (v : Vis) (m t : Nat) : pT v m (t + 1) = pR v m t v.tr.length := by
  unfold pR pT trailsJ trailsA
  rw [List.range_succ, List.flatMap_append, List.take_length]
  simp
theorem pA_zero (v : Vis) (m : Nat) : pA v m 0 = pT v m (m + 1) := by simp [pA, arrsJ]
theorem pA_succ (v : Vis) (m : Nat) {j : Nat} (hj : j < v.ar.length) : pA v m (j + 1) = pA v m j ++ (if v.ar[j].1.toNat ≤ m then [(srcN v m, nd v.n v.ar[j].2.1.toNat v.ar[j].1.toNat, v.ar[j].2.2)] else []) := by
  unfold pA arrsJ
  rw [List.take_succ_eq_append_getElem hj, List.flatMap_append]
  simp
theorem netP_eq (v : Vis) (p m : Nat) : netP v p m = pA v m v.ar.length ++ [lastA v p m] := by
  unfold netP pA arrsJ arrsA pT waitsT
  rw [List.take_length]
theorem waits_len (v : Vis) (m t q : Nat) : (waitsT v m t q).length ≤ q := by
  induction q with
  | zero => simp [waitsT]
  | succ q ih =>
    have e : waitsT v m t (q + 1) = waitsT v m t q ++ (if t < m then [waitA v t q] else []) := by simp [waitsT, List.range_succ]
    rw [e, List.length_append]
    split <;> simp <;> omega
theorem trails_len (v : Vis) (m t : Nat) : ∀ j, (trailsJ v m t j).length ≤ j := by
  have key : ∀ l : List (Int × Int × Int × Int), (l.flatMap fun x => if t + x.2.2.1.toNat ≤ m then [((nd v.n x.1.toNat t, nd v.n x.2.1.toNat (t + x.2.2.1.toNat), x.2.2.2) : Arc3)] else []).length ≤ l.length := fun l => by
    induction l with
    | nil => simp
    | cons a l ih =>
      rw [List.flatMap_cons, List.length_append, List.length_cons]
      split
      · rw [List.length_singleton]; omega
      · rw [List.length_nil]; omega
  intro j
  have := key (v.tr.take j)
  have h2 := List.length_take_le j v.tr
  unfold trailsJ
  omega
theorem arrs_len (v : Vis) (m : Nat) : ∀ j, (arrsJ v m j).length ≤ j := by
  have key : ∀ l : List (Int × Int × Int), (l.flatMap fun a => if a.1.toNat ≤ m then [((srcN v m, nd v.n a.2.1.toNat a.1.toNat, a.2.2) : Arc3)] else []).length ≤ l.length := fun l => by
    induction l with
    | nil => simp
    | cons a l ih =>
      rw [List.flatMap_cons, List.length_append, List.length_cons]
      split
      · rw [List.length_singleton]; omega
      · rw [List.length_nil]; omega
  intro j
  have := key (v.ar.take j)
  have h2 := List.length_take_le j v.ar
  unfold arrsJ
  omega
theorem pT_len {v : Vis} (hv : VisOk v) (m : Nat) : ∀ t, (pT v m t).length ≤ 24 * t
  | 0 => by simp [pT]
  | t + 1 => by
    have ih := pT_len hv m t
    have h1 := waits_len v m t v.n
    have h2 := trails_len v m t v.tr.length
    have := hv.n.2
    have := hv.tl
    rw [pT_succ]
    unfold pR
    rw [List.length_append, List.length_append]
    omega
theorem pW_len {v : Vis} (hv : VisOk v) (m t q : Nat) : (pW v m t q).length ≤ 24 * t + q := by
  have h0 := pT_len hv m t
  have h1 := waits_len v m t q
  unfold pW
  rw [List.length_append]
  omega
theorem pR_len {v : Vis} (hv : VisOk v) (m t j : Nat) : (pR v m t j).length ≤ 24 * t + 8 + j := by
  have h0 := pT_len hv m t
  have h1 := waits_len v m t v.n
  have h2 := trails_len v m t j
  have := hv.n.2
  unfold pR
  rw [List.length_append, List.length_append]
  omega
theorem pA_len {v : Vis} (hv : VisOk v) (m j : Nat) : (pA v m j).length ≤ 24 * (m + 1) + j := by
  have h0 := pT_len hv m (m + 1)
  have h1 := arrs_len v m j
  unfold pA
  rw [List.length_append]
  omega
theorem nd_src {v : Vis} {m p t : Nat} (hp : p < v.n) (ht : t ≤ m) : nd v.n p t < srcN v m := nd_lt hp ht
/-- A list of arcs that are all sound. -/
theorem wait_ok {v : Vis} (hv : VisOk v) {m t q : Nat} (hq : q < v.n) (ht : t < m) : (waitA v t q).1 < snkN v m + 1 ∧ (waitA v t q).2.1 < snkN v m + 1 ∧ 0 ≤ (waitA v t q).2.2 ∧ (waitA v t q).2.2 ≤ 1000 := by
  have h1 := nd_src (v := v) (m := m) hq (show t ≤ m by omega)
  have h2 := nd_src (v := v) (m := m) hq (show t + 1 ≤ m by omega)
  have h3 := hv.room q hq
  unfold waitA snkN
  dsimp only
  omega
theorem trail_ok {v : Vis} (hv : VisOk v) {m t : Nat} {x : Int × Int × Int × Int} (hx : x ∈ v.tr) (ht : t + x.2.2.1.toNat ≤ m) : nd v.n x.1.toNat t < srcN v m ∧ nd v.n x.2.1.toNat (t + x.2.2.1.toNat) < srcN v m ∧ 0 ≤ x.2.2.2 ∧ x.2.2.2 ≤ 1000 := by
  have h1 := hv.tr x hx
  have h0 := hv.n
  have h2 := nd_src (v := v) (m := m) (p := x.1.toNat) (t := t) (by omega) (by omega)
  have h3 := nd_src (v := v) (m := m) (p := x.2.1.toNat) (t := t + x.2.2.1.toNat) (by omega) (by omega)
  omega
theorem arr_ok {v : Vis} (hv : VisOk v) {m : Nat} {a : Int × Int × Int} (ha : a ∈ v.ar) (ht : a.1.toNat ≤ m) : nd v.n a.2.1.toNat a.1.toNat < srcN v m ∧ 0 ≤ a.2.2 ∧ a.2.2 ≤ 1000 := by
  have h1 := hv.ar a ha
  have h0 := hv.n
  have h2 := nd_src (v := v) (m := m) (p := a.2.1.toNat) (t := a.1.toNat) (by omega) ht
  omega
theorem netP_mem {v : Vis} (hv : VisOk v) {p m : Nat} (hp : p < v.n) : ∀ a, a ∈ netP v p m → (a.1 < snkN v m + 1 ∧ a.2.1 < snkN v m + 1) ∧ 0 ≤ a.2.2 ∧ a.2.2 ≤ 1000 := fun a ha => by
  unfold netP at ha
  simp only [List.mem_append, List.mem_flatMap, List.mem_range, List.mem_singleton] at ha
  rcases ha with (⟨t, ht, ⟨q, hq, h⟩ | h⟩ | h) | h
  · split at h
    · rename_i hm
      have h := List.mem_singleton.1 h
      subst h
      have := wait_ok hv hq hm
      omega
    · cases h
  · unfold trailsA at h
    obtain ⟨x, hx, h⟩ := List.mem_flatMap.1 h
    split at h
    · rename_i hm
      have h := List.mem_singleton.1 h
      subst h
      have := trail_ok hv hx hm
      unfold snkN
      dsimp only
      omega
    · cases h
  · unfold arrsA at h
    obtain ⟨x, hx, h⟩ := List.mem_flatMap.1 h
    split at h
    · rename_i hm
      have h := List.mem_singleton.1 h
      subst h
      have := arr_ok hv hx hm
      unfold snkN
      dsimp only
      omega
    · cases h
  · subst h
    have h1 := nd_src (v := v) (m := m) hp (Nat.le_refl m)
    have h2 := hv.room p hp
    unfold lastA snkN
    dsimp only
    omega
theorem netP_ok {v : Vis} (hv : VisOk v) {p m : Nat} (hp : p < v.n) : NetOk (netP v p m) (snkN v m + 1) (srcN v m) :=
  ⟨fun a ha => (netP_mem hv hp a ha).1, fun a ha => by have := (netP_mem hv hp a ha).2; omega, by unfold snkN; omega⟩
theorem arrive_le {v : Vis} (hv : VisOk v) (p t : Nat) : 0 ≤ arrive v p t ∧ arrive v p t ≤ 16000 := by
  have key : ∀ l : List (Int × Int × Int), (∀ a, a ∈ l → 0 ≤ a.2.2 ∧ a.2.2 ≤ 1000) → 0 ≤ lsum (l.map fun a => if a.2.1.toNat = p ∧ a.1.toNat = t then a.2.2 else 0) ∧ lsum (l.map fun a => if a.2.1.toNat = p ∧ a.1.toNat = t then a.2.2 else 0) ≤ 1000 * l.length := fun l => by
    induction l with
    | nil => intro _; simp [lsum]
    | cons a l ih =>
      intro h
      have h1 := ih fun b hb => h b (by simp [hb])
      have h2 := h a (by simp)
      rw [List.map_cons, lsum_cons, List.length_cons]
      generalize lsum (l.map fun a => if a.2.1.toNat = p ∧ a.1.toNat = t then a.2.2 else 0) = s at *
      split <;> omega
  have h1 := key v.ar fun a ha => (hv.ar a ha).2.2
  have := hv.al
  unfold arrive
  omega
theorem netD_ok {v : Vis} (hv : VisOk v) {p m : Nat} (hp : p < v.n) : NetOk (netD v p m) (snkN v m + 1) (srcN v m) := by
  have key : ∀ a, a ∈ netD v p m → (a.1 < snkN v m + 1 ∧ a.2.1 < snkN v m + 1) ∧ 0 ≤ a.2.2 ∧ a.2.2 ≤ 16000 := fun a ha => by
    unfold netD at ha
    simp only [List.mem_append, List.mem_flatMap, List.mem_range, List.mem_singleton, List.mem_cons] at ha
    rcases ha with ⟨t, ht, ⟨q, hq, h | h⟩ | h⟩ | h | h
    · subst h
      have h1 := nd_src (v := v) (m := m) hq (show t ≤ m by omega)
      have h2 := arrive_le hv q t
      unfold snkN
      dsimp only
      omega
    · split at h
      · rename_i hm
        have h := List.mem_singleton.1 h
        subst h
        have := wait_ok hv hq hm
        omega
      · cases h
    · unfold trailsA at h
      obtain ⟨x, hx, h⟩ := List.mem_flatMap.1 h
      split at h
      · rename_i hm
        have h := List.mem_singleton.1 h
        subst h
        have := trail_ok hv hx hm
        unfold snkN
        dsimp only
        omega
      · cases h
    · subst h
      have h1 := nd_src (v := v) (m := m) hp (Nat.le_refl m)
      have h2 := hv.room p hp
      unfold lastA snkN
      dsimp only
      omega
    · cases h
  exact ⟨fun a ha => (key a ha).1, fun a ha => by have := (key a ha).2; omega, by unfold snkN; omega⟩
/-- What the sink takes. -/
theorem most_sink {v : Vis} {p m : Nat} (hv : VisOk v) (hp : p < v.n) : widL (fun x => x != snkN v m) (netP v p m) = v.room p ∧ widL (fun x => x != snkN v m) (netD v p m) = v.room p := by
  have hz : ∀ l : List Arc3, (∀ a, a ∈ l → a.2.1 ≠ snkN v m) → widL (fun x => x != snkN v m) l = 0 := fun l => by
    induction l with
    | nil => intro _; rfl
    | cons a l ih =>
      intro h
      rw [widL_cons, ih fun b hb => h b (by simp [hb])]
      have := h a (by simp)
      simp [crossA, this]
  have hlast : widL (fun x => x != snkN v m) [lastA v p m] = v.room p := by
    have h1 := nd_src (v := v) (m := m) hp (Nat.le_refl m)
    have : nd v.n p m ≠ snkN v m := by unfold snkN; omega
    simp [widL, lsum, crossA, lastA, this]
  constructor
  · unfold netP
    rw [widL_app, hlast, hz]
    · omega
    · intro a ha
      simp only [List.mem_append, List.mem_flatMap, List.mem_range] at ha
      rcases ha with ⟨t, ht, ⟨q, hq, h⟩ | h⟩ | h
      · split at h
        · rename_i hm
          have h := List.mem_singleton.1 h
          subst h
          have := nd_src (v := v) (m := m) hq (show t + 1 ≤ m by omega)
          unfold waitA snkN
          dsimp only
          omega
        · cases h
      · unfold trailsA at h
        obtain ⟨x, hx, h⟩ := List.mem_flatMap.1 h
        split at h
        · rename_i hm
          have h := List.mem_singleton.1 h
          subst h
          have := trail_ok hv hx hm
          unfold snkN
          dsimp only
          omega
        · cases h
      · unfold arrsA at h
        obtain ⟨x, hx, h⟩ := List.mem_flatMap.1 h
        split at h
        · rename_i hm
          have h := List.mem_singleton.1 h
          subst h
          have := arr_ok hv hx hm
          unfold snkN
          dsimp only
          omega
        · cases h
  · unfold netD
    rw [widL_app, hlast, hz]
    · omega
    · intro a ha
      simp only [List.mem_append, List.mem_flatMap, List.mem_range, List.mem_cons] at ha
      rcases ha with ⟨t, ht, ⟨q, hq, h | h⟩ | h⟩
      · subst h
        have := nd_src (v := v) (m := m) hq (show t ≤ m by omega)
        unfold snkN
        dsimp only
        omega
      · split at h
        · rename_i hm
          have h := List.mem_singleton.1 h
          subst h
          have := nd_src (v := v) (m := m) hq (show t + 1 ≤ m by omega)
          unfold waitA snkN
          dsimp only
          omega
        · cases h
      · unfold trailsA at h
        obtain ⟨x, hx, h⟩ := List.mem_flatMap.1 h
        split at h
        · rename_i hm
          have h := List.mem_singleton.1 h
          subst h
          have := trail_ok hv hx hm
          unfold snkN
          dsimp only
          omega
        · cases h
theorem srcN_le {v : Vis} (hv : VisOk v) {m : Nat} (hm : m ≤ 60) : srcN v m ≤ 488 := by
  have := hv.n.2
  have h2 : (m + 1) * v.n ≤ 61 * 8 := Nat.mul_le_mul (by omega) this
  unfold srcN nd
  omega
end Go.Proofs.YtomfnldlnoiloaaDoor
/- Crowd, plain: the stands that more people can reach, in order. -/
namespace Go.Proofs.YtomfnldlnoiloaaDoor
set_option linter.unusedVariables false
set_option linter.unusedSimpArgs false

/-- In which order stands are. -/
def leT (a b : Int × Int) : Prop := a.1 < b.1 ∨ (a.1 = b.1 ∧ a.2 ≤ b.2)
def ltT (a b : Int × Int) : Prop := a.1 < b.1 ∨ (a.1 = b.1 ∧ a.2 < b.2)
/-- The stands of a set of nodes. -/
def standsR (v : Vis) (m : Nat) (R : Nat → Bool) : List (Int × Int) := (List.range v.n).flatMap fun q => (List.range (m + 1)).flatMap fun t => if R (nd v.n q t) then [((q : Int), (t : Int))] else []
theorem standsR_mem {v : Vis} {m : Nat} {R : Nat → Bool} {a : Int × Int} : a ∈ standsR v m R ↔ ∃ q t : Nat, q < v.n ∧ t ≤ m ∧ R (nd v.n q t) = true ∧ a = ((q : Int), (t : Int)) := by
  unfold standsR
  simp only [List.mem_flatMap, List.mem_range]
  constructor
  · rintro ⟨q, hq, t, ht, h⟩
    split at h
    · rename_i hr
      exact ⟨q, t, hq, by omega, hr, List.mem_singleton.1 h⟩
    · cases h
  · rintro ⟨q, t, hq, ht, hr, rfl⟩
    exact ⟨q, hq, t, by omega, by rw [if_pos hr]; simp⟩
theorem range_pair (k : Nat) : (List.range k).Pairwise (· < ·) := List.pairwise_lt_range
theorem standsR_pair (v : Vis) (m : Nat) (R : Nat → Bool) : (standsR v m R).Pairwise ltT := by
  unfold standsR
  rw [List.pairwise_flatMap]
  refine ⟨fun q _ => ?_, (range_pair _).imp fun {q1 q2} h x hx y hy => ?_⟩
  · rw [List.pairwise_flatMap]
    refine ⟨fun t _ => ?_, (range_pair _).imp fun {t1 t2} h x hx y hy => ?_⟩
    · split <;> simp
    · split at hx
      · split at hy
        · have hx := List.mem_singleton.1 hx
          have hy := List.mem_singleton.1 hy
          subst hx hy
          exact .inr ⟨rfl, by simpa using h⟩
        · cases hy
      · cases hx
  · obtain ⟨t1, _, hx⟩ := List.mem_flatMap.1 hx
    obtain ⟨t2, _, hy⟩ := List.mem_flatMap.1 hy
    split at hx
    · split at hy
      · have hx := List.mem_singleton.1 hx
        have hy := List.mem_singleton.1 hy
        subst hx hy
        exact .inl (by simpa using h)
      · cases hy
    · cases hx
theorem standsR_len {v : Vis} (hv : VisOk v) {m : Nat} (hm : m ≤ 60) (R : Nat → Bool) : (standsR v m R).length ≤ 488 := by
  have key : ∀ q k : Nat, ((List.range k).flatMap fun t => if R (nd v.n q t) then [((q : Int), (t : Int))] else []).length ≤ k := fun q k => by
    induction k with
    | zero => simp
    | succ k ih =>
      rw [List.range_succ, List.flatMap_append, List.length_append]
      have : ([k].flatMap fun t => if R (nd v.n q t) then [((q : Int), (t : Int))] else []).length ≤ 1 := by
        simp only [List.flatMap_cons, List.flatMap_nil, List.append_nil]
        split <;> simp
      omega
  have key2 : ∀ k : Nat, ((List.range k).flatMap fun q => (List.range (m + 1)).flatMap fun t => if R (nd v.n q t) then [((q : Int), (t : Int))] else []).length ≤ k * (m + 1) := fun k => by
    induction k with
    | zero => simp
    | succ k ih =>
      rw [show List.range (k + 1) = List.range k ++ [k] from List.range_succ, List.flatMap_append, List.length_append, List.flatMap_cons, List.flatMap_nil, List.append_nil, Nat.succ_mul]
      have := key k (m + 1)
      omega
  have h1 := key2 v.n
  have h2 : v.n * (m + 1) ≤ 8 * 61 := Nat.mul_le_mul hv.n.2 (by omega)
  unfold standsR
  omega
/-- A list of nodes that are stands, as stands in order. -/
theorem stands_perm {v : Vis} (hv : VisOk v) {m : Nat} {xs : List Nat} (hn : xs.Nodup) (hx : ∀ x, x ∈ xs → x < srcN v m) {R : Nat → Bool} (hR : ∀ x, x < srcN v m → (R x = true ↔ x ∈ xs)) :
    (xs.map fun x => (((x % v.n : Nat) : Int), ((x / v.n : Nat) : Int))).Perm (standsR v m R) := by
  have hn0 := hv.n
  have hnd : ∀ x, x < srcN v m → x % v.n < v.n ∧ x / v.n ≤ m ∧ nd v.n (x % v.n) (x / v.n) = x := fun x h => by
    refine ⟨Nat.mod_lt _ (by omega), ?_, ?_⟩
    · have h1 : x < (m + 1) * v.n := by unfold srcN nd at h; omega
      have := (Nat.div_lt_iff_lt_mul (by omega : 0 < v.n)).2 h1
      omega
    · unfold nd
      rw [Nat.mul_comm]
      exact Nat.div_add_mod x v.n
  rw [List.perm_ext_iff_of_nodup]
  · intro a
    rw [standsR_mem, List.mem_map]
    constructor
    · rintro ⟨x, h1, rfl⟩
      obtain ⟨h2, h3, h4⟩ := hnd x (hx x h1)
      exact ⟨x % v.n, x / v.n, h2, h3, by rw [h4]; exact (hR x (hx x h1)).2 h1, rfl⟩
    · rintro ⟨q, t, hq, ht, hr, rfl⟩
      have h1 := nd_src (v := v) (m := m) hq ht
      refine ⟨nd v.n q t, (hR _ h1).1 hr, ?_⟩
      unfold nd
      rw [Nat.add_comm, Nat.add_mul_mod_self_right, Nat.mod_eq_of_lt hq, Nat.add_mul_div_right _ _ (by omega), Nat.div_eq_of_lt hq, Nat.zero_add]
  · rw [List.Nodup, List.pairwise_map]
    refine (List.Pairwise.and_mem.1 hn).imp fun {a b} h e => ?_
    obtain ⟨ha, hb, hne⟩ := h
    simp only [Prod.mk.injEq] at e
    have e1 : a % v.n = b % v.n := by exact_mod_cast e.1
    have e2 : a / v.n = b / v.n := by exact_mod_cast e.2
    exact hne (by rw [← Nat.div_add_mod a v.n, ← Nat.div_add_mod b v.n, e1, e2])
  · refine (standsR_pair v m R).imp fun {a b} h e => ?_
    subst e
    unfold ltT at h
    omega
theorem sorted_stands {v : Vis} {m : Nat} {R : Nat → Bool} {l : List (Int × Int)} (hp : l.Perm (standsR v m R)) (hs : l.Pairwise leT) : l = standsR v m R := by
  refine List.Perm.eq_of_pairwise (le := leT) (fun a b _ _ h1 h2 => ?_) hs ((standsR_pair v m R).imp fun h => ?_) hp
  · unfold leT at h1 h2
    exact Prod.ext (by omega) (by omega)
  · unfold ltT at h
    unfold leT
    omega
end Go.Proofs.YtomfnldlnoiloaaDoor
