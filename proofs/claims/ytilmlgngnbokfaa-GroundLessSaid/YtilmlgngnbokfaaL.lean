/- The sum of the largest fractions: largest. -/
import Derived.Test.YtilmlgngnbokfaaR
import Derived.Test.YtilmlgngnbokfaaSh
import Derived.Shelf.SlSortCmp.WholeK
import Derived.Shelf.SlSortCmp.NoneTotal
namespace Go.Proofs.Ytilmlgngnbokfaa
set_option linter.unusedVariables false
set_option linter.unusedSimpArgs false
open Go.RowKit Go.Sort

theorem grow_below (w : World) (os : Array Obj) : Below w.heap.size w (grow w os) :=
  ⟨rfl, rfl, rfl, by simp [grow], fun k hk => heap_grow_old w os hk⟩

set_option maxHeartbeats 400000 in
theorem compare_g (n d m e : Int) (w : World) (hn : 0 ≤ n * e) (hn' : n * e ≤ 1000000000000000000) (hm : 0 ≤ m * d) (hm' : m * d ≤ 1000000000000000000) :
    Calls Try.prog 64 #[Rat2 n d, Rat2 m e] w fun r w' => r = .returned (I (cmpI (n * e) (m * d))) ∧ ∃ os, w' = grow w os := by
  go_enter Try.func64, Try.ntmps64
  go_wp2
  all_goals
    go_ret
    refine ⟨ret_int ?_, _, by rw [alloc_eq_grow, alloc_eq_grow, grow_grow]⟩
    simp [cmpI]; omega

set_option maxHeartbeats 400000 in
theorem closure79 (n d m e : Int) (Bc : Nat) (w : World) (hn : 0 ≤ n * e) (hn' : n * e ≤ 1000000000000000000) (hm : 0 ≤ m * d) (hm' : m * d ≤ 1000000000000000000)
    (hlt : Bc < w.heap.size) (hc : w.cell? ⟨Bc, 0, none⟩ = some (.func (.func 64) #[] #[])) :
    Calls Try.prog 79 #[Rat2 n d, Rat2 m e, .pointer (some ⟨Bc, 0, none⟩)] w fun r w' => r = .returned (I (cmpI (m * d) (n * e))) ∧ ∃ os, w' = grow w os := by
  go_enter Try.func79, Try.ntmps79
  go_wp2_with (go_at_call 64; refine (compare_g _ _ _ _ _ hm hm' hn hn').mono ?_; rintro r w1 ⟨rfl, os, rfl⟩)
  go_ret
  exact ⟨rfl, _, by rw [alloc_eq_grow, alloc_eq_grow, grow_grow, grow_grow]⟩

/-- A fraction that a person makes a post bear. -/
def RT (C : Int) := { x : Int × Int // 0 ≤ x.1 ∧ x.1 ≤ 500 * x.2 ∧ 1 ≤ x.2 ∧ x.2 ≤ 200 ∧ x.2 ∣ C }
instance (C : Int) : Inhabited (RT C) := ⟨⟨(0, 1), by simp⟩⟩
def vOf {C : Int} (x : RT C) : Int := x.1.1 * (C / x.1.2)
theorem vOf_rep {C : Int} (x : RT C) : Rep C x.1 (vOf x) := by
  obtain ⟨⟨a, b⟩, h1, h2, h3, h4, k, hk⟩ := x
  refine ⟨h1, h3, ⟨k, hk⟩, ?_⟩
  simp only [vOf] at *
  rw [hk, Int.mul_ediv_cancel_left _ (by omega), Int.mul_assoc, Int.mul_comm k b]
theorem vOf_le {C : Int} (hC : 0 < C) (x : RT C) : vOf x ≤ 500 * C := by
  obtain ⟨_, _, _, h4⟩ := vOf_rep x
  have h := x.2.2.1
  have hb : 1 ≤ x.1.2 := x.2.2.2.1
  have : vOf x * x.1.2 ≤ 500 * C * x.1.2 := by
    rw [← h4, Int.mul_right_comm]
    exact Int.mul_le_mul_of_nonneg_right h (by omega)
  exact Int.le_of_mul_le_mul_right this (by omega)
def encR {C : Int} (x : RT C) : List Value := [I x.1.1, I x.1.2]
/-- What the sort is told: the greater one first. -/
def cfR {C : Int} (x y : RT C) : Int := cmpI (vOf y) (vOf x)
theorem cfR_eq {C : Int} (hC : 0 < C) (x y : RT C) : cmpI (y.1.1 * x.1.2) (x.1.1 * y.1.2) = cfR x y := cmp_rep hC (vOf_rep y) (vOf_rep x)
theorem ltR {C : Int} (x y : RT C) : ltOf (cfR (C := C)) x y = decide (vOf y < vOf x) := by
  unfold ltOf cfR cmpI
  by_cases h : vOf y < vOf x
  · simp [h]
  · by_cases h2 : vOf x < vOf y <;> simp [h, h2]
theorem swoR {C : Int} : SWO (ltOf (cfR (C := C))) where
  irrefl x := by rw [ltR]; simp
  trans x y z h1 h2 := by rw [ltR] at *; simp at *; omega
  ntrans x y z h1 h2 := by rw [ltR] at *; simp at *; omega
theorem rt_mul {C : Int} (x y : RT C) : 0 ≤ x.1.1 * y.1.2 ∧ x.1.1 * y.1.2 ≤ 1000000000000000000 := by
  obtain ⟨⟨a, b⟩, h1, h2, h3, h4, _⟩ := x
  obtain ⟨⟨c, d⟩, k1, k2, k3, k4, _⟩ := y
  show 0 ≤ a * d ∧ a * d ≤ _
  have e1 : 0 ≤ a := h1
  have e2 : a ≤ 500 * b := h2
  have e3 : b ≤ 200 := h4
  have e4 : 1 ≤ d := k3
  have e5 : d ≤ 200 := k4
  have := mul_bd e1 (show a ≤ 100000 by omega) (show 0 ≤ d by omega) e5
  omega

theorem cmpLays79 {C : Int} (hC : 0 < C) (Bc blk off size : Nat) (w : World) (hne : Bc ≠ blk) (hlt : Bc < w.heap.size) (hc : w.cell? ⟨Bc, 0, none⟩ = some (.func (.func 64) #[] #[])) :
    Proofs.CmpLays Try.prog 79 #[.pointer (some ⟨Bc, 0, none⟩)] (encR (C := C)) 2 (cfR (C := C)) blk off size w := by
  intro m os dk _ x y
  have h1 := rt_mul x y
  have h2 := rt_mul y x
  refine (closure79 x.1.1 x.1.2 y.1.1 y.1.2 Bc _ h1.1 h1.2 h2.1 h2.2 ?_ ?_).mono ?_
  · exact Nat.lt_of_lt_of_le hlt (Proofs.size_sortWorldK_c _ _ _ _ _ _ _ _)
  · rw [Proofs.cell?_sortWorldK_other _ _ _ _ _ _ _ _ _ hne hlt]; exact hc
  · rintro e w' ⟨rfl, os, rfl⟩
    exact ⟨by rw [cfR_eq hC], 0, os, rfl⟩

theorem isAgg67 (w : World) : (isAgg 67).run Try.prog w = .ok true w := by kernel_rfl
theorem sizeOf67 (w : World) : (Go.sizeOf 67).run Try.prog w = .ok 2 w := by kernel_rfl

/-- The sort of the fractions. -/
theorem sort78 {C : Int} (hC : 0 < C) (Bc blk cap : Nat) (d : Array (RT C)) (w : World) (hne : Bc ≠ blk) (hlt : Bc < w.heap.size) (hc : w.cell? ⟨Bc, 0, none⟩ = some (.func (.func 64) #[] #[]))
    (hH : HoldsK encR 2 w blk 0 d) (hblk : blk < w.heap.size) (hsz : d.size < 1000000) :
    Calls Try.prog 78 #[.slice (some ⟨blk, 0, none⟩) d.size cap, .func (.func 79) #[] #[.pointer (some ⟨Bc, 0, none⟩)]] w fun e w' =>
      e = .returned (.tuple #[]) ∧ ∃ d' n os, PermIn 0 d.size d d' ∧ SortedIn (ltOf (cfR (C := C))) 0 d.size d' ∧ w' = sortWorldK encR 2 w blk 0 n d' os :=
  Proofs.AnyQ.slices_SortFunc Proofs.Try.sortR 2 isAgg67 sizeOf67 (encR (C := C)) (fun _ => rfl) (fun x v hv => by simp [encR] at hv; rcases hv with rfl | rfl <;> rfl) cfR swoR 79 #[.pointer (some ⟨Bc, 0, none⟩)] blk 0 cap d w
    (enters_of Try.func79 (by kernel_rfl) rfl) (cmpLays79 hC Bc blk 0 d.size w hne hlt hc) hH hblk (by omega)
theorem sort78_none (p : Option Addr) (cap : Nat) (fv : Value) (w : World) : Calls Try.prog 78 #[.slice p 0 cap, fv] w fun e w' => e = .returned (.tuple #[]) ∧ w = w' :=
  (Proofs.AnyF.slices_SortFunc_none { Proofs.Try.sortR with } p cap fv w).mono fun _ _ ⟨h1, h2⟩ => ⟨h1, h2.symm⟩

theorem sortWorldK_frm {α : Type} [Inhabited α] (enc : α → List Value) (k : Nat) (w : World) (blk off n : Nat) (d : Array α) (os : Array Obj) : Frm w.heap.size (· = blk) w (sortWorldK enc k w blk off n d os) := by
  unfold sortWorldK
  refine Frm.then_ (b := putRowK enc k (Sort.ahead w n) blk off d) ?_ (grow_below _ _) (by simp [putRowK, putRow, mapBlock, Sort.ahead])
  refine ⟨rfl, rfl, rfl, by simp [putRowK, putRow, mapBlock, Sort.ahead], fun j hj hne => ?_⟩
  simp only [putRowK, putRow, mapBlock, Sort.ahead, Array.getElem?_modify]
  rw [if_neg (fun h => hne h.symm)]

/-- The sum of the first k of a row's fractions. -/
def sumTo {C : Int} (d : Array (RT C)) (k : Nat) : Int := ((d.toList.take k).map vOf).sum
theorem sumTo_zero {C : Int} (d : Array (RT C)) : sumTo d 0 = 0 := by simp [sumTo]
theorem sumTo_succ {C : Int} (d : Array (RT C)) (k : Nat) (h : k < d.size) : sumTo d (k + 1) = sumTo d k + vOf d[k]! := by
  unfold sumTo
  rw [List.take_succ_eq_append_getElem (by simpa using h)]
  simp [getElem!_pos d k h]
theorem sumTo_le {C : Int} (hC : 0 < C) (d : Array (RT C)) : ∀ k, k ≤ d.size → 0 ≤ sumTo d k ∧ sumTo d k ≤ 500 * k * C := by
  intro k
  induction k with
  | zero => simp [sumTo]
  | succ k ih =>
    intro hk
    have h1 := ih (by omega)
    have h2 := vOf_le hC d[k]!
    have h3 := rep_nonneg hC (vOf_rep d[k]!)
    rw [sumTo_succ d k (by omega)]
    have : (500 * ((k + 1 : Nat) : Int) * C) = 500 * (k : Int) * C + 500 * C := by
      rw [show ((k + 1 : Nat) : Int) = (k : Int) + 1 by omega, Int.mul_add, Int.add_mul]; simp
    omega

set_option maxRecDepth 100000 in
set_option maxHeartbeats 1000000 in
theorem largest_some {C : Int} (hC : 0 < C) (hC' : C ≤ 80000) (blk cap : Nat) (d : Array (RT C)) (pe : Int) (w : World) (hd : 0 < d.size) (hsz : d.size < 1000000) (hcap : d.size ≤ cap) (hcap' : cap ≤ 9223372036854775807) (hpe : 0 ≤ pe ∧ pe ≤ 100)
    (hH : HoldsK encR 2 w blk 0 d) (hblk : blk < w.heap.size) :
    Calls Try.prog 63 #[.slice (some ⟨blk, 0, none⟩) d.size cap, I pe, .func (.func 64) #[] #[], Rat2 0 1, .func (.func 65) #[] #[]] w fun e w' =>
      (∃ d' a b, PermIn 0 d.size d d' ∧ SortedIn (ltOf (cfR (C := C))) 0 d.size d' ∧ Rep C (a, b) (sumTo d' (min pe.toNat d.size)) ∧ e = .returned (Rat2 a b)) ∧ Frm w.heap.size (· = blk) w w' := by
  obtain ⟨pn, rfl⟩ := Int.eq_ofNat_of_zero_le hpe.1
  obtain ⟨W, hW⟩ : ∃ W, W = ((w.alloc (.cells #[.func (.func 64) #[] #[]] 102)).alloc (.cells #[I 0, I 1] 67)).alloc (.cells #[I 0, I 0] 67) := ⟨_, rfl⟩
  have hWs : W.heap.size = w.heap.size + 3 := by rw [hW]; simp
  have hWb : Below w.heap.size w W := by rw [hW]; (repeat' (first | assumption | exact Below.refl _ _ | refine Below.drew ?_ | refine below_drewN ?_ _ | refine Below.setCell ?_ (by first | omega | (simp; done) | (simp; omega)) _ | refine Below.alloc ?_ (by first | omega | (simp; done) | (simp; omega)) _ | refine Below.trans ?_ (Below.mono (by assumption) (by first | omega | (simp; done) | (simp; omega)))))
  have hWf : Frm w.heap.size (· = blk) w W := Frm.of_below hWb (Nat.le_refl _)
  have hWH : HoldsK encR 2 W blk 0 d := fun j hj => by
    have := hH j hj
    exact ⟨(hWb.cell (p := ⟨blk, 0 + j, none⟩) hblk).trans this.1, (hWb.frozen (p := ⟨blk, 0 + j, none⟩) hblk).trans this.2⟩
  have hcon := sort78 hC w.heap.size blk cap d W (by omega) (by omega) (by rw [hW]; simp [go_sem]) hWH (by omega) hsz
  have hb0 : W.cell? ⟨w.heap.size + 1, 0, none⟩ = some (I 0) ∧ W.cell? ⟨w.heap.size + 1, 1, none⟩ = some (I 1) ∧ W.frozen? ⟨w.heap.size + 1, 0, none⟩ = false ∧ W.frozen? ⟨w.heap.size + 1, 1, none⟩ = false ∧
    W.cell? ⟨w.heap.size + 2, 0, none⟩ = some (I 0) ∧ W.cell? ⟨w.heap.size + 2, 1, none⟩ = some (I 0) ∧ W.frozen? ⟨w.heap.size + 2, 0, none⟩ = false ∧ W.frozen? ⟨w.heap.size + 2, 1, none⟩ = false := by rw [hW]; simp [go_sem]
  have HB := Lib.hid hb0
  clear hb0
  have HW := Lib.hid hW
  have hWH' := Lib.hid hWH
  have hH' := Lib.hid hH
  have hcon' := Lib.hid hcon
  clear hH hWH hcon
  go_enter Try.func63, Try.ntmps63
  go_wp2_with (fail)
  rw [show World.alloc (World.alloc (World.alloc w _) _) _ = W from hW.symm]
  clear hW
  refine hcon'.out.mono ?_
  rintro e w2 ⟨rfl, d', n, os, hp, hs, hw2⟩
  have hs' : d'.size = d.size := hp.1
  have hK : HoldsK encR 2 w2 blk 0 d' := by rw [hw2]; exact holdsK_sortWorldK_c _ _ _ _ _ _ _ _ _ hWH'.out (by omega) hs'
  have hF : Frm w.heap.size (· = blk) w w2 := by rw [hw2]; exact hWf.trans ((sortWorldK_frm _ _ _ _ _ _ _ _).mono (by omega) (fun _ _ h => h))
  have hF3 : Frm (w.heap.size + 3) (· = blk) W w2 := by rw [hw2]; exact (sortWorldK_frm _ _ _ _ _ _ _ _).mono (by omega) (fun _ _ h => h)
  have hz2 : w.heap.size + 3 ≤ w2.heap.size := by have := hF3.size; omega
  obtain ⟨b1, b2, b3, b4, b5, b6, b7, b8⟩ := HB.out
  have c1 := (hF3.cell (o := 0) (b := w.heap.size + 1) (by omega) (by omega)).trans b1
  have c2 := (hF3.cell (o := 1) (b := w.heap.size + 1) (by omega) (by omega)).trans b2
  have c3 := (hF3.frozen (o := 0) (b := w.heap.size + 1) (by omega) (by omega)).trans b3
  have c4 := (hF3.frozen (o := 1) (b := w.heap.size + 1) (by omega) (by omega)).trans b4
  have c5 := (hF3.frozen (o := 0) (b := w.heap.size + 1 + 1) (by omega) (by omega)).trans b7
  have c6 := (hF3.frozen (o := 1) (b := w.heap.size + 1 + 1) (by omega) (by omega)).trans b8
  have c7 := (hF3.cell (o := 0) (b := w.heap.size + 1 + 1) (by omega) (by omega)).trans b5
  have c8 := (hF3.cell (o := 1) (b := w.heap.size + 1 + 1) (by omega) (by omega)).trans b6
  clear b1 b2 b3 b4 b5 b6 b7 b8 HB hw2 hWH'
  obtain ⟨q, hq⟩ : ∃ q : Nat, q = min pn d.size := ⟨_, rfl⟩
  have hqd : q ≤ d.size := by omega
  have hqp : q ≤ 100 := by omega
  have HP := Lib.hid hp
  have HS := Lib.hid hs
  clear hp hs
  have HK : Hid (∀ j, j < d'.size → w2.cell? ⟨blk, j * 2, none⟩ = some (I d'[j]!.1.1) ∧ w2.cell? ⟨blk, j * 2 + 1, none⟩ = some (I d'[j]!.1.2)) := Lib.hid fun j hj => ⟨by have := (hK.cell hj (c := 0) (by omega)).1; simpa [encR] using this, by have := (hK.cell hj (c := 1) (by omega)).1; simpa [encR] using this⟩
  clear hK
  have e1 : (min (pn : Int) (d.size : Int)) = (q : Int) := by omega
  have e2 : max (q : Int) 0 = q := by omega
  go_wp2_with (fail)
  go_loopw [23] (fun s wr => ∃ k : Nat, k ≤ q ∧ s = I k ∧ ∃ a b, Rep C (a, b) (sumTo d' k) ∧ wr.cell? ⟨w.heap.size + 1, 0, none⟩ = some (I a) ∧ wr.cell? ⟨w.heap.size + 1, 1, none⟩ = some (I b) ∧ Frm (w.heap.size + 3) (· = w.heap.size + 1) w2 wr ∧ wr.frozen? ⟨w.heap.size + 1, 0, none⟩ = false ∧ wr.frozen? ⟨w.heap.size + 1, 1, none⟩ = false) (fun s _ => q - (intOf s).toNat)
  case atStart => exact ⟨0, Nat.zero_le _, rfl, 0, 1, ⟨by simp, by simp, by simp, by simp [sumTo_zero]⟩, c1, c2, Frm.refl _ _ _, c3, c4⟩
  case round =>
    obtain ⟨k, hk, rfl, a, b, hR, k1, k2, hFr, k3, k4⟩ := hrel
    have k5 := (hFr.frozen (o := 0) (b := w.heap.size + 1 + 1) (by omega) (by omega)).trans c5
    have k6 := (hFr.frozen (o := 1) (b := w.heap.size + 1 + 1) (by omega) (by omega)).trans c6
    have k7 := (hFr.cell (o := 0) (b := w.heap.size + 1 + 1) (by omega) (by omega)).trans c7
    have k8 := (hFr.cell (o := 1) (b := w.heap.size + 1 + 1) (by omega) (by omega)).trans c8
    have hzr : w.heap.size + 3 ≤ wr.heap.size := by have := hFr.size; omega
    have hz1 : w.heap.size + 1 < wr.heap.size := by omega
    have hz0 : w.heap.size < wr.heap.size := by omega
    by_cases hlt : k < q
    · obtain ⟨r1, r2⟩ := HK.out k (by omega)
      have r1 := (hFr.cell (by omega) (by omega)).trans r1
      have r2 := (hFr.cell (by omega) (by omega)).trans r2
      have hc' := hC'
      generalize hx : d'[k]! = x at r1 r2
      have hb1 : Rep C (a, b) (sumTo d' k) := hR
      have hS := sumTo_le hC d' k (by omega)
      have hSm : sumTo d' k ≤ 50000 * C := by
        have : 500 * (k : Int) * C ≤ 50000 * C := Int.mul_le_mul_of_nonneg_right (by omega) (by omega)
        omega
      have ha := rep_le hC hR hSm
      have hbC := rep_den_le hC hR
      have ha0 : 0 ≤ a := hR.1
      have hb0 : 1 ≤ b := hR.2.1
      have hP := plus_rep hC hR (vOf_rep x)
      have hPs : sumTo d' k + vOf x = sumTo d' (k + 1) := by rw [sumTo_succ d' k (by omega), hx]
      rw [hPs] at hP
      obtain ⟨⟨xa, xb⟩, hx1, hx2, hx3, hx4, hx5⟩ := x
      simp only at r1 r2 hP hx1 hx2 hx3 hx4
      have m1 := mul_bd ha0 (show a ≤ 4000000000 by omega) (show 0 ≤ xb by omega) hx4
      have m2 := mul_bd hx1 (show xa ≤ 100000 by omega) (show 0 ≤ b by omega) (show b ≤ 80000 by omega)
      have m3 := mul_bd (show 0 ≤ b by omega) (show b ≤ 80000 by omega) (show 0 ≤ xb by omega) hx4
      have m4 : 1 ≤ b * xb := by have := Int.mul_pos (show 0 < b by omega) (show 0 < xb by omega); omega
      have hcon2 : ∀ W', Calls Try.prog 65 #[Rat2 a b, Rat2 xa xb] W' fun r w' => r = .returned (Rat2 (plusR a b xa xb).1 (plusR a b xa xb).2) ∧ Below W'.heap.size W' w' := fun W' => plus_any a b xa xb W' (by omega) (by omega) (by omega) (by omega) (by omega) (by omega)
      generalize plusR a b xa xb = p at hcon2 hP
      obtain ⟨pa, pb⟩ := p
      have HC := Lib.hid hcon2
      have HPL := Lib.hid hP
      clear hcon2 hP hx hPs hS hSm hR hb1 hx5 m1 m2 m3 m4
      go_wp2_with (go_at_call 65; refine (HC.out _).mono ?_; rintro r w3 ⟨rfl, hB⟩; obtain ⟨hc, hf⟩ := bcell hB; have hz : wr.heap.size < w3.heap.size := by have := hB.size; simp at this; omega)
      go_roundw
      case rel =>
        refine ⟨k + 1, by omega, rfl, _, _, HPL.out, by simp [go_sem, hc, hz1, hz0, k1], by simp [go_sem, hc, hz1, hz0, k2], ?_, by simp [go_sem, hf, hz1, hz0, k3], by simp [go_sem, hf, hz1, hz0, k4]⟩
        exact (((hFr.alloc (by omega) _).then_ hB (by simp; omega)).setCell (Or.inr rfl) _).setCell (Or.inr rfl) _
      case measure => simp [intOf]; omega
    · have hkq : k = q := by omega
      subst hkq
      go_wp2_with (fail)
      refine bodyPost_ret (v := Rat2 a b) ?_ rfl ⟨⟨d', a, b, HP.out, HS.out, ?_, rfl⟩, ?_⟩
      · simp [results, Try.results63, go_sem, hz0, hz1, k1, k2, k3, k4, k5, k6, k7, k8]
      · rw [show min (Int.toNat (pn : Int)) d.size = k by rw [hq]; simp]; exact hR
      · exact (hF.trans (hFr.mono (by omega) (fun i h1 h2 => by omega))).setCell (Or.inl (by simp; omega)) _ |>.setCell (Or.inl (by simp; omega)) _
end Go.Proofs.Ytilmlgngnbokfaa
