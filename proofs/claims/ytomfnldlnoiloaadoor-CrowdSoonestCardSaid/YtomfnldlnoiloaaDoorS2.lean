/- The network's arcs, one by one: what lies in memory as the list of arcs grows; the visit in memory. -/
import Derived.Test.YtomfnldlnoiloaaDoorS1
import Derived.Test.YtomfnldlnoiloaaDoorN9
namespace Go.Proofs.YtomfnldlnoiloaaDoor
set_option linter.unusedVariables false
set_option linter.unusedSimpArgs false
open Go Go.RowKit Go.Maps

def Threes (w : World) (B : Nat) (A : Option Addr) (xs : List (Int × Int × Int)) : Prop :=
  0 < xs.length → ∃ b off, A = some ⟨b, off, none⟩ ∧ b < B ∧ ∀ k (h : k < xs.length), w.cell? ⟨b, off + k * 3, none⟩ = some (I xs[k].1) ∧ w.cell? ⟨b, off + k * 3 + 1, none⟩ = some (I xs[k].2.1) ∧ w.cell? ⟨b, off + k * 3 + 2, none⟩ = some (I xs[k].2.2)
section
variable {w w' : World} {B B' : Nat} {A : Option Addr}
theorem Threes.keep {xs : List (Int × Int × Int)} (h : Threes w B A xs) (hk : ∀ p : Addr, p.block < B → w'.cell? p = w.cell? p) : Threes w' B A xs := fun h0 => by
  obtain ⟨b, off, hA, hb, hc⟩ := h h0
  exact ⟨b, off, hA, hb, fun k hk' => ⟨(hk _ hb).trans (hc k hk').1, (hk _ hb).trans (hc k hk').2.1, (hk _ hb).trans (hc k hk').2.2⟩⟩
theorem Threes.more {xs : List (Int × Int × Int)} (h : Threes w B A xs) (hB : B ≤ B') : Threes w B' A xs := fun h0 => by
  obtain ⟨b, off, hA, hb, hc⟩ := h h0
  exact ⟨b, off, hA, by omega, hc⟩
theorem Threes.below {xs : List (Int × Int × Int)} (h : Threes w B A xs) (hb : Below B w w') : Threes w' B A xs := h.keep fun _ hp => hb.cell hp
end
/-- A visit in memory. -/
structure VisAt (w : World) (B : Nat) (v : Vis) (A1 A2 A3 : Option Addr) : Prop where
  rm : Ints w B A1 v.rm
  tr : Fours w B A2 v.tr
  ar : Threes w B A3 v.ar
theorem VisAt.below {w w' : World} {B : Nat} {v : Vis} {A1 A2 A3 : Option Addr} (h : VisAt w B v A1 A2 A3) (hb : Below B w w') : VisAt w' B v A1 A2 A3 := ⟨h.rm.below hb, h.tr.below hb, h.ar.below hb⟩
theorem VisAt.more {w : World} {B B' : Nat} {v : Vis} {A1 A2 A3 : Option Addr} (h : VisAt w B v A1 A2 A3) (hB : B ≤ B') : VisAt w B' v A1 A2 A3 := ⟨h.rm.more hB, h.tr.more hB, h.ar.more hB⟩
abbrev visV (v : Vis) (A1 A2 A3 : Option Addr) (c1 c2 c3 : Nat) : Value := .agg #[.slice A1 v.rm.length c1, .slice A2 v.tr.length c2, .slice A3 v.ar.length c3]
/-- The knots of a network whose source is node s. -/
def ktv (n s : Nat) : Kt := ⟨fun x => if x < s then ((x % n : Nat) : Int) else 0, fun x => if x < s then ((x / n : Nat) : Int) else 0, fun x => if x < s then 0 else if x = s then 1 else 2⟩
theorem ktv_v (n s x : Nat) : (ktv n s).v x = kv n s x := by
  unfold Kt.v ktv kv
  dsimp only
  split
  · rfl
  · split <;> rfl
theorem ktv_ok {n s : Nat} (hs : s ≤ 1000000) : KtOk (ktv n s) (s + 2) :=
  ⟨fun x y hx hy h => kv_inj (n := n) (s := s) (by omega) (by omega) (by rw [← ktv_v, ← ktv_v]; exact h), fun x _ => by rw [ktv_v]; exact kv_key hs⟩
theorem ktv_nd {n p t m : Nat} (hp : p < n) (ht : t ≤ m) : (ktv n (nd n 0 (m + 1))).a (nd n p t) = p ∧ (ktv n (nd n 0 (m + 1))).b (nd n p t) = t ∧ (ktv n (nd n 0 (m + 1))).c (nd n p t) = 0 := by
  have h := kv_nd hp ht
  rw [← ktv_v] at h
  simp only [Kt.v, kn] at h
  simpa using h
theorem ktv_src (n s : Nat) : (ktv n s).a s = 0 ∧ (ktv n s).b s = 0 ∧ (ktv n s).c s = 1 := by simp [ktv]
theorem ktv_snk (n s : Nat) : (ktv n s).a (s + 1) = 0 ∧ (ktv n s).b (s + 1) = 0 ∧ (ktv n s).c (s + 1) = 2 := by
  have h : ¬ s + 1 < s := by omega
  simp only [ktv, h, if_false]
  simp
/-- The network of a list of arcs, with no flow. -/
def NetL (base b N : Nat) (k : Kt) (L : List Arc3) (w : World) : Prop := ∃ d : Nt, d.b = b ∧ NetAt base w.heap.size N L.length k (stT L) (outsL L) (roomL L fun _ => 0) d w
theorem NetL.later {base b N : Nat} {k : Kt} {L : List Arc3} {w w' : World} (h : NetL base b N k L w) (hB : Below w.heap.size w w') : NetL base b N k L w' := by
  obtain ⟨d, h1, h2⟩ := h
  exact ⟨d, h1, (h2.below hB (Nat.le_refl _)).raise hB.size (Nat.le_refl _)⟩
theorem NetL.lt {base b N : Nat} {k : Kt} {L : List Arc3} {w : World} (h : NetL base b N k L w) : base ≤ b ∧ b < w.heap.size := by
  obtain ⟨d, rfl, h2⟩ := h
  exact ⟨h2.mb.1, h2.mb.2⟩
theorem NetL.new (w : World) (N : Nat) (k : Kt) {base : Nat} (hb : base ≤ w.heap.size) : NetL base w.heap.size N k [] (w.alloc (.map #[] 0)) := by
  refine ⟨⟨w.heap.size, 0, fun _ => none, fun _ => .slice none 0 0, fun _ => 0⟩, rfl, ?_⟩
  rw [World.size_alloc]
  exact NetAt.new w N k _ _ hb
theorem getD_old {L : List Arc3} {a : Arc3} {i : Nat} (h : i < L.length) : (L ++ [a]).getD i (0, 0, 0) = L.getD i (0, 0, 0) := by
  simp [List.getD_eq_getElem?_getD, List.getElem?_append_left h]
theorem getD_new {L : List Arc3} {a : Arc3} : (L ++ [a]).getD L.length (0, 0, 0) = a := by simp [List.getD_eq_getElem?_getD]
theorem add53L {base b N : Nat} {k : Kt} {L : List Arc3} {w : World} (hN : NetL base b N k L w) (hk : KtOk k N) {x y : Nat} (hx : x < N) (hy : y < N) (room : Int) (hl : L.length ≤ 4000) (xa xb xc : Int) (hxk : k.a x = xa ∧ k.b x = xb ∧ k.c x = xc) (ya yb yc : Int) (hyk : k.a y = ya ∧ k.b y = yb ∧ k.c y = yc)
    (tb c : Nat) (c0 : w.cell? ⟨tb, 0, none⟩ = some (I ya)) (c1 : w.cell? ⟨tb, 1, none⟩ = some (I yb)) (c2 : w.cell? ⟨tb, 2, none⟩ = some (I yc)) :
    Calls Tryd.prog 53 #[.map (some b), kn xa xb xc, I room, .slice (some ⟨tb, 0, none⟩) 1 c] w fun e w' => (∃ v, e = .returned v) ∧ Below base w w' ∧ NetL base b N k (L ++ [(x, y, room)]) w' := by
  obtain ⟨rfl, rfl, rfl⟩ := hxk
  obtain ⟨rfl, rfl, rfl⟩ := hyk
  obtain ⟨d, rfl, h⟩ := hN
  refine (add53 base w.heap.size N L.length k _ _ _ d w h hk x y hx hy room (fun z _ => by have := outsL_lt (L := L) (x := z); omega) tb c c0 c1 c2).mono ?_
  rintro e w' ⟨h1, h2, d', e1, _, h3⟩
  refine ⟨h1, h2, d', e1, ?_⟩
  rw [List.length_append, List.length_singleton]
  refine h3.congr (fun p hp => ?_) (fun z _ => ?_) (fun p hp => ?_)
  · unfold stT stepTo addTo frL toL
    by_cases e : p.1 = L.length
    · rw [if_pos e, e, getD_new]
    · rw [if_neg e, getD_old (by omega)]
  · unfold addOuts
    rw [outsL_snoc]
    dsimp only
    by_cases e1 : z = y
    · subst e1
      by_cases e2 : x = z
      · subst e2; simp
      · have e3 : ¬ z = x := fun e => e2 e.symm
        simp [e2, e3]
    · have e3 : ¬ y = z := fun e => e1 e.symm
      by_cases e2 : z = x
      · subst e2; simp [e1, e3]
      · have e4 : ¬ x = z := fun e => e2 e.symm
        simp [e1, e2, e3, e4]
  · unfold roomL roomS addLeft capL
    by_cases e : p.1 = L.length
    · rw [if_pos e, e, getD_new]
      simp
    · rw [if_neg e, getD_old (by omega)]
set_option maxRecDepth 100000 in
/-- The closure 'at'. -/
theorem at52 (p t : Int) (w : World) : Calls Tryd.prog 52 #[I p, I t] w fun e w' => e = .returned (kn p t 0) ∧ Below w.heap.size w w' := by
  go_enter Tryd.func52, Tryd.ntmps52
  go_wp2
  refine bodyPost_ret (v := kn p t 0) (by simp [results, Tryd.results52, go_sem]) rfl ⟨rfl, by (repeat' (first | assumption | exact Below.refl _ _ | refine Below.drew ?_ | refine below_drewN ?_ _ | refine Below.setCell ?_ (by first | omega | (simp; done) | (simp; omega)) _ | refine Below.alloc ?_ (by first | omega | (simp; done) | (simp; omega)) _ | refine Below.trans ?_ (Below.mono (by assumption) (by first | omega | (simp; done) | (simp; omega)))))⟩
end Go.Proofs.YtomfnldlnoiloaaDoor
