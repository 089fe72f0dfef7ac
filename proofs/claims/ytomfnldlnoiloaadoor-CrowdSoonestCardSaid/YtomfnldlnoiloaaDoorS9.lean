/- Visits and views: their errors. -/
import Derived.Test.YtomfnldlnoiloaaDoorS8
import Derived.Laws.EntriesVeiled
namespace Go.Proofs.YtomfnldlnoiloaaDoor
set_option linter.unusedVariables false
set_option linter.unusedSimpArgs false
open Go Go.RowKit

def visB (v : Vis) : Bool := ((inB v.rm.length 1 8 && decide ((v.tr.length : Int) ≤ 16)) && decide ((v.ar.length : Int) ≤ 16)) && !(v.rm.any fun r => !inB r 0 1000) && !(v.tr.any (trBad v.rm.length)) && !(v.ar.any (arBad v.rm.length))
theorem visB_iff {v : Vis} : visB v = true ↔ VisOk v := by
  unfold visB
  simp only [Bool.and_eq_true, Bool.not_eq_true', List.any_eq_false, decide_eq_true_eq, Bool.not_eq_false', inB_true, Bool.not_eq_true, bne_iff_ne]
  constructor
  · rintro ⟨⟨⟨⟨⟨h1, h2⟩, h3⟩, h4⟩, h5⟩, h6⟩
    refine ⟨by unfold Vis.n; omega, by omega, by omega, fun p hp => ?_, fun x hx => ?_, fun a ha => ?_⟩
    · have hp2 : p < v.rm.length := hp
      have := h4 _ (List.getElem_mem hp2)
      rw [Bool.not_eq_false, inB_true] at this
      simpa [Vis.room, List.getD_eq_getElem?_getD, hp2] using this
    · have := h5 x hx
      unfold trBad at this
      simp only [Bool.or_eq_false_iff, Bool.not_eq_false', inB_true, beq_eq_false_iff_ne] at this
      unfold Vis.n
      omega
    · have := h6 a ha
      unfold arBad at this
      simp only [Bool.or_eq_false_iff, Bool.not_eq_false', inB_true] at this
      unfold Vis.n
      omega
  · intro h
    have hn := h.n
    unfold Vis.n at hn
    refine ⟨⟨⟨⟨⟨by omega, by have := h.tl; omega⟩, by have := h.al; omega⟩, fun x hx => ?_⟩, fun x hx => ?_⟩, fun a ha => ?_⟩
    · obtain ⟨p, hp, rfl⟩ := List.getElem_of_mem hx
      have := h.room p hp
      unfold Vis.room at this
      rw [Bool.not_eq_false, inB_true]
      simpa [List.getD_eq_getElem?_getD, hp] using this
    · have := h.tr x hx
      unfold Vis.n at this
      unfold trBad
      simp only [Bool.or_eq_false_iff, Bool.not_eq_false', inB_true, beq_eq_false_iff_ne]
      omega
    · have := h.ar a ha
      unfold Vis.n at this
      unfold arBad
      simp only [Bool.or_eq_false_iff, Bool.not_eq_false', inB_true]
      omega
/-- Sizes that a slice can have. -/
structure Vis64 (v : Vis) : Prop where
  n : v.rm.length ≤ 9223372036854775807
  t : v.tr.length ≤ 9223372036854775807
  a : v.ar.length ≤ 9223372036854775807
set_option maxRecDepth 100000 in
set_option maxHeartbeats 4000000 in
theorem isVisit51 (v : Vis) (h64 : Vis64 v) (A1 A2 A3 : Option Addr) (q1 q2 q3 : Nat) (w : World) (hI : VisAt w w.heap.size v A1 A2 A3) :
    Calls Tryd.prog 51 #[visV v A1 A2 A3 q1 q2 q3] w fun e w' => e = .returned (.bool (visB v)) ∧ Below w.heap.size w w' := by
  obtain ⟨w3, hw3⟩ : ∃ w3, ((w.alloc (.cells #[.slice A1 v.rm.length q1, .slice A2 v.tr.length q2, .slice A3 v.ar.length q3] 26)).alloc (.cells #[I v.rm.length] 3)).alloc (.cells #[.func (.func 59) #[] #[ptr (w.heap.size + 1)]] 72) = w3 := ⟨_, rfl⟩
  have hB3 : Below w.heap.size w w3 := by rw [← hw3]; (repeat' (first | assumption | exact Below.refl _ _ | refine Below.drew ?_ | refine below_drewN ?_ _ | refine Below.setCell ?_ (by first | omega | (simp; done) | (simp; omega)) _ | refine Below.alloc ?_ (by first | omega | (simp; done) | (simp; omega)) _ | refine Below.trans ?_ (Below.mono (by assumption) (by first | omega | (simp; done) | (simp; omega)))))
  have hz3 : w3.heap.size = w.heap.size + 3 := by rw [← hw3]; simp
  have b1 : Box w3 w.heap.size [.slice A1 v.rm.length q1, .slice A2 v.tr.length q2, .slice A3 v.ar.length q3] := by rw [← hw3]; exact ((Box.new w [.slice A1 v.rm.length q1, .slice A2 v.tr.length q2, .slice A3 v.ar.length q3] 26).alloc _).alloc _
  have b2 : Box w3 (w.heap.size + 1) [I v.rm.length] := by
    rw [← hw3]
    have h := (Box.new (w.alloc (.cells #[.slice A1 v.rm.length q1, .slice A2 v.tr.length q2, .slice A3 v.ar.length q3] 26)) [I v.rm.length] 3).alloc (.cells #[.func (.func 59) #[] #[ptr (w.heap.size + 1)]] 72)
    simpa only [World.size_alloc] using h
  have b3 : Box w3 (w.heap.size + 1 + 1) [.func (.func 59) #[] #[ptr (w.heap.size + 1)]] := by
    rw [← hw3]
    have h := Box.new ((w.alloc (.cells #[.slice A1 v.rm.length q1, .slice A2 v.tr.length q2, .slice A3 v.ar.length q3] 26)).alloc (.cells #[I v.rm.length] 3)) [.func (.func 59) #[] #[ptr (w.heap.size + 1)]] 72
    simpa only [World.size_alloc] using h
  have H64 : Hid (∀ W, Below w3.heap.size w3 W → Calls Tryd.prog 64 #[.slice A1 v.rm.length q1, .func (.func 63) #[] #[]] W fun e w' => e = .returned (.bool (v.rm.any fun r => !inB r 0 1000)) ∧ Below W.heap.size W w') := Lib.hid fun W hW =>
    cont64 _ 63 #[] (enters_of Tryd.func63 (by kernel_rfl) rfl) A1 q1 v.rm W ((hI.rm.below (hB3.trans (hW.mono (by omega)))).more (by have := hW.size; omega)) h64.n (fun i hi W' _ => (clo63 v.rm[i] W').mono fun e w' h => ⟨h.1, by rw [← h.2]; exact Below.refl _ _⟩)
  have H65 : Hid (v.rm.length ≤ 8 → ∀ W, Below w3.heap.size w3 W → Calls Tryd.prog 65 #[.slice A2 v.tr.length q2, .func (.func 60) #[] #[ptr (w.heap.size + 1 + 1)]] W fun e w' => e = .returned (.bool (v.tr.any (trBad v.rm.length))) ∧ Below W.heap.size W w') := Lib.hid fun h8 W hW =>
    cont65 _ 60 #[ptr (w.heap.size + 1 + 1)] (enters_of Tryd.func60 (by kernel_rfl) rfl) A2 q2 v.tr W ((hI.tr.below (hB3.trans (hW.mono (by omega)))).more (by have := hW.size; omega)) h64.t (fun i hi W' hW' => by
      have hb := hW.trans (hW'.mono hW.size)
      exact clo60 v.tr[i] v.rm.length (w.heap.size + 1) (w.heap.size + 1 + 1) W' (by omega) ((b2.call hb).at_ 0 _ rfl).1 ((b3.call hb).at_ 0 _ rfl).1 (b2.call hb).1 (b3.call hb).1)
  have H66 : Hid (v.rm.length ≤ 8 → ∀ W, Below w3.heap.size w3 W → Calls Tryd.prog 66 #[.slice A3 v.ar.length q3, .func (.func 62) #[] #[ptr (w.heap.size + 1 + 1)]] W fun e w' => e = .returned (.bool (v.ar.any (arBad v.rm.length))) ∧ Below W.heap.size W w') := Lib.hid fun h8 W hW =>
    cont66 _ 62 #[ptr (w.heap.size + 1 + 1)] (enters_of Tryd.func62 (by kernel_rfl) rfl) A3 q3 v.ar W ((hI.ar.below (hB3.trans (hW.mono (by omega)))).more (by have := hW.size; omega)) h64.a (fun i hi W' hW' => by
      have hb := hW.trans (hW'.mono hW.size)
      exact clo62 v.ar[i] v.rm.length (w.heap.size + 1) (w.heap.size + 1 + 1) W' (by omega) ((b2.call hb).at_ 0 _ rfl).1 ((b3.call hb).at_ 0 _ rfl).1 (b2.call hb).1 (b3.call hb).1)
  have HBX : Hid (∀ W, Below w3.heap.size w3 W → (W.cell? ⟨w.heap.size, 0, none⟩ = some (.slice A1 v.rm.length q1) ∧ W.cell? ⟨w.heap.size, 1, none⟩ = some (.slice A2 v.tr.length q2) ∧ W.cell? ⟨w.heap.size, 2, none⟩ = some (.slice A3 v.ar.length q3)) ∧ Below w.heap.size w W) := Lib.hid fun W h => ⟨⟨((b1.call h).at_ 0 _ rfl).1, ((b1.call h).at_ 1 _ rfl).1, ((b1.call h).at_ 2 _ rfl).1⟩, hB3.trans (h.mono (by omega))⟩
  obtain ⟨⟨x0, x1, x2⟩, _⟩ := HBX.out w3 (Below.refl _ _)
  have x3 := (b2.at_ 0 _ rfl).1
  have H35 := Lib.hid (within35 v.rm.length 1 8 w3)
  unfold visB
  have hn8 : inB (v.rm.length : Int) 1 8 = true → v.rm.length ≤ 8 := fun h => by have := inB_true.1 h; omega
  obtain ⟨s1, hs1⟩ : ∃ s, inB (v.rm.length : Int) 1 8 = s := ⟨_, rfl⟩
  obtain ⟨s2, hs2⟩ : ∃ s, decide ((v.tr.length : Int) ≤ 16) = s := ⟨_, rfl⟩
  obtain ⟨s3, hs3⟩ : ∃ s, decide ((v.ar.length : Int) ≤ 16) = s := ⟨_, rfl⟩
  obtain ⟨a1, ha1⟩ : ∃ s, (v.rm.any fun r => !inB r 0 1000) = s := ⟨_, rfl⟩
  obtain ⟨a2, ha2⟩ : ∃ s, v.tr.any (trBad v.rm.length) = s := ⟨_, rfl⟩
  obtain ⟨a3, ha3⟩ : ∃ s, v.ar.any (arBad v.rm.length) = s := ⟨_, rfl⟩
  rw [hs1] at H35 hn8 ⊢
  rw [hs2, hs3]
  rw [ha1] at H64 ⊢
  rw [ha2] at H65 ⊢
  rw [ha3] at H66 ⊢
  clear hs1 ha1 ha2 ha3 h64 hI b1 b2 b3 hB3 hz3
  cases s1
  · clear hn8
    have H8 : Hid (v.rm.length ≤ 8 ∨ True) := Lib.hid (.inr trivial)
    go_enter Tryd.func51, Tryd.ntmps51
    go_wp2_with (first
      | (go_at_call 35; refine H35.out.mono ?_; rintro e w1 ⟨rfl, rfl⟩)
      | (go_at_call 64; refine (H64.out _ (Below.refl _ _)).mono ?_; rintro e w4 ⟨rfl, hb4⟩; obtain ⟨⟨y0, y1, y2⟩, hB4⟩ := HBX.out w4 hb4)
      | (go_at_call 65; refine (H65.out H8.out _ hb4).mono ?_; rintro e w5 ⟨rfl, hb5⟩; have hb35 := below_call hb4 hb5; obtain ⟨⟨z0, z1, z2⟩, hB5⟩ := HBX.out w5 hb35)
      | (go_at_call 66; refine (H66.out H8.out _ hb35).mono ?_; rintro e w6 ⟨rfl, hb6⟩; have hB6 := (HBX.out w6 (below_call hb35 hb6)).2)
      | fail)
    go_ret
    exact ⟨rfl, (HBX.out w3 (Below.refl _ _)).2⟩
  have H8 := Lib.hid (hn8 rfl)
  clear hn8
  cases s2
  · go_enter Tryd.func51, Tryd.ntmps51
    go_wp2_with (first
      | (go_at_call 35; refine H35.out.mono ?_; rintro e w1 ⟨rfl, rfl⟩)
      | (go_at_call 64; refine (H64.out _ (Below.refl _ _)).mono ?_; rintro e w4 ⟨rfl, hb4⟩; obtain ⟨⟨y0, y1, y2⟩, hB4⟩ := HBX.out w4 hb4)
      | (go_at_call 65; refine (H65.out H8.out _ hb4).mono ?_; rintro e w5 ⟨rfl, hb5⟩; have hb35 := below_call hb4 hb5; obtain ⟨⟨z0, z1, z2⟩, hB5⟩ := HBX.out w5 hb35)
      | (go_at_call 66; refine (H66.out H8.out _ hb35).mono ?_; rintro e w6 ⟨rfl, hb6⟩; have hB6 := (HBX.out w6 (below_call hb35 hb6)).2)
      | fail)
    go_ret
    exact ⟨rfl, (HBX.out w3 (Below.refl _ _)).2⟩
  cases s3
  · go_enter Tryd.func51, Tryd.ntmps51
    go_wp2_with (first
      | (go_at_call 35; refine H35.out.mono ?_; rintro e w1 ⟨rfl, rfl⟩)
      | (go_at_call 64; refine (H64.out _ (Below.refl _ _)).mono ?_; rintro e w4 ⟨rfl, hb4⟩; obtain ⟨⟨y0, y1, y2⟩, hB4⟩ := HBX.out w4 hb4)
      | (go_at_call 65; refine (H65.out H8.out _ hb4).mono ?_; rintro e w5 ⟨rfl, hb5⟩; have hb35 := below_call hb4 hb5; obtain ⟨⟨z0, z1, z2⟩, hB5⟩ := HBX.out w5 hb35)
      | (go_at_call 66; refine (H66.out H8.out _ hb35).mono ?_; rintro e w6 ⟨rfl, hb6⟩; have hB6 := (HBX.out w6 (below_call hb35 hb6)).2)
      | fail)
    go_ret
    exact ⟨rfl, (HBX.out w3 (Below.refl _ _)).2⟩
  cases a1
  rotate_left
  · go_enter Tryd.func51, Tryd.ntmps51
    go_wp2_with (first
      | (go_at_call 35; refine H35.out.mono ?_; rintro e w1 ⟨rfl, rfl⟩)
      | (go_at_call 64; refine (H64.out _ (Below.refl _ _)).mono ?_; rintro e w4 ⟨rfl, hb4⟩; obtain ⟨⟨y0, y1, y2⟩, hB4⟩ := HBX.out w4 hb4)
      | (go_at_call 65; refine (H65.out H8.out _ hb4).mono ?_; rintro e w5 ⟨rfl, hb5⟩; have hb35 := below_call hb4 hb5; obtain ⟨⟨z0, z1, z2⟩, hB5⟩ := HBX.out w5 hb35)
      | (go_at_call 66; refine (H66.out H8.out _ hb35).mono ?_; rintro e w6 ⟨rfl, hb6⟩; have hB6 := (HBX.out w6 (below_call hb35 hb6)).2)
      | fail)
    go_ret
    exact ⟨rfl, hB4⟩
  cases a2
  rotate_left
  · go_enter Tryd.func51, Tryd.ntmps51
    go_wp2_with (first
      | (go_at_call 35; refine H35.out.mono ?_; rintro e w1 ⟨rfl, rfl⟩)
      | (go_at_call 64; refine (H64.out _ (Below.refl _ _)).mono ?_; rintro e w4 ⟨rfl, hb4⟩; obtain ⟨⟨y0, y1, y2⟩, hB4⟩ := HBX.out w4 hb4)
      | (go_at_call 65; refine (H65.out H8.out _ hb4).mono ?_; rintro e w5 ⟨rfl, hb5⟩; have hb35 := below_call hb4 hb5; obtain ⟨⟨z0, z1, z2⟩, hB5⟩ := HBX.out w5 hb35)
      | (go_at_call 66; refine (H66.out H8.out _ hb35).mono ?_; rintro e w6 ⟨rfl, hb6⟩; have hB6 := (HBX.out w6 (below_call hb35 hb6)).2)
      | fail)
    go_ret
    exact ⟨rfl, hB5⟩
  go_enter Tryd.func51, Tryd.ntmps51
  go_wp2_with (first
    | (go_at_call 35; refine H35.out.mono ?_; rintro e w1 ⟨rfl, rfl⟩)
    | (go_at_call 64; refine (H64.out _ (Below.refl _ _)).mono ?_; rintro e w4 ⟨rfl, hb4⟩; obtain ⟨⟨y0, y1, y2⟩, hB4⟩ := HBX.out w4 hb4)
    | (go_at_call 65; refine (H65.out H8.out _ hb4).mono ?_; rintro e w5 ⟨rfl, hb5⟩; have hb35 := below_call hb4 hb5; obtain ⟨⟨z0, z1, z2⟩, hB5⟩ := HBX.out w5 hb35)
    | (go_at_call 66; refine (H66.out H8.out _ hb35).mono ?_; rintro e w6 ⟨rfl, hb6⟩; have hB6 := (HBX.out w6 (below_call hb35 hb6)).2)
    | fail)
  go_ret
  exact ⟨by cases a3 <;> rfl, hB6⟩
/-- The error of a visit and a view. -/
def errN (v : Vis) (p m : Int) : Int := if visB v then (if inB p 0 ((v.rm.length : Int) - 1) && inB m 0 60 then 0 else 2) else 1
set_option maxRecDepth 100000 in
set_option maxHeartbeats 4000000 in
theorem errorOf30 (v : Vis) (h64 : Vis64 v) (A1 A2 A3 : Option Addr) (q1 q2 q3 : Nat) (p m : Int) (w : World) (hI : VisAt w w.heap.size v A1 A2 A3) :
    Calls Tryd.prog 30 #[visV v A1 A2 A3 q1 q2 q3, sd p m] w fun e w' => e = .returned (I (errN v p m)) ∧ Below w.heap.size w w' := by
  obtain ⟨w2, hw2⟩ : ∃ w2, (w.alloc (.cells #[.slice A1 v.rm.length q1, .slice A2 v.tr.length q2, .slice A3 v.ar.length q3] 26)).alloc (.cells #[I p, I m] 46) = w2 := ⟨_, rfl⟩
  have hB2 : Below w.heap.size w w2 := by rw [← hw2]; (repeat' (first | assumption | exact Below.refl _ _ | refine Below.drew ?_ | refine below_drewN ?_ _ | refine Below.setCell ?_ (by first | omega | (simp; done) | (simp; omega)) _ | refine Below.alloc ?_ (by first | omega | (simp; done) | (simp; omega)) _ | refine Below.trans ?_ (Below.mono (by assumption) (by first | omega | (simp; done) | (simp; omega)))))
  have b1 : Box w2 w.heap.size [.slice A1 v.rm.length q1, .slice A2 v.tr.length q2, .slice A3 v.ar.length q3] := by rw [← hw2]; exact (Box.new w [.slice A1 v.rm.length q1, .slice A2 v.tr.length q2, .slice A3 v.ar.length q3] 26).alloc _
  have b2 : Box w2 (w.heap.size + 1) [I p, I m] := by
    rw [← hw2]
    have h := Box.new (w.alloc (.cells #[.slice A1 v.rm.length q1, .slice A2 v.tr.length q2, .slice A3 v.ar.length q3] 26)) [I p, I m] 46
    simpa only [World.size_alloc] using h
  have H51 := Lib.hid (isVisit51 v h64 A1 A2 A3 q1 q2 q3 w2 ((hI.below hB2).more hB2.size))
  have HBX : Hid (∀ W, Below w2.heap.size w2 W → (W.cell? ⟨w.heap.size, 0, none⟩ = some (.slice A1 v.rm.length q1)) ∧ (W.cell? ⟨w.heap.size + 1, 0, none⟩ = some (I p) ∧ W.cell? ⟨w.heap.size + 1, 1, none⟩ = some (I m)) ∧ Below w.heap.size w W) := Lib.hid fun W h => ⟨((b1.call h).at_ 0 _ rfl).1, ⟨((b2.call h).at_ 0 _ rfl).1, ((b2.call h).at_ 1 _ rfl).1⟩, hB2.trans (h.mono hB2.size)⟩
  have c0 := (b1.at_ 0 _ rfl).1
  have c1 := (b1.at_ 1 _ rfl).1
  have c2 := (b1.at_ 2 _ rfl).1
  have hsub : IntKind.i64.wrap ((v.rm.length : Int) - 1) = (v.rm.length : Int) - 1 := IntWalk.i64_in _ (by have := h64.n; omega)
  unfold errN
  obtain ⟨s1, hs1⟩ : ∃ s, visB v = s := ⟨_, rfl⟩
  obtain ⟨s2, hs2⟩ : ∃ s, inB p 0 ((v.rm.length : Int) - 1) = s := ⟨_, rfl⟩
  obtain ⟨s3, hs3⟩ : ∃ s, inB m 0 60 = s := ⟨_, rfl⟩
  have H35 : Hid (∀ W, Calls Tryd.prog 35 #[I p, I 0, I ((v.rm.length : Int) - 1)] W fun e w' => e = .returned (.bool s2) ∧ W = w') := Lib.hid fun W => by rw [← hs2]; exact within35 _ _ _ _
  have H36 : Hid (∀ W, Calls Tryd.prog 36 #[I m] W fun e w' => e = .returned (.bool s3) ∧ W = w') := Lib.hid fun W => by rw [← hs3]; exact isMinute36 _ _
  rw [hs1] at H51 ⊢
  rw [hs2, hs3]
  clear hs1 hs2 hs3 b1 b2 hB2 hI h64
  cases s1
  · go_enter Tryd.func30, Tryd.ntmps30
    go_wp2_with (first
      | (go_at_call 51; refine H51.out.mono ?_; rintro e w3 ⟨rfl, hb3⟩; obtain ⟨y0, ⟨y1, y2⟩, hB3⟩ := HBX.out w3 hb3)
      | (go_at_call 35; refine (H35.out _).mono ?_; rintro e w4 ⟨rfl, rfl⟩)
      | (go_at_call 36; refine (H36.out _).mono ?_; rintro e w4 ⟨rfl, rfl⟩)
      | fail)
    go_ret
    exact ⟨rfl, hB3⟩
  cases s2
  · go_enter Tryd.func30, Tryd.ntmps30
    go_wp2_with (first
      | (go_at_call 51; refine H51.out.mono ?_; rintro e w3 ⟨rfl, hb3⟩; obtain ⟨y0, ⟨y1, y2⟩, hB3⟩ := HBX.out w3 hb3)
      | (go_at_call 35; refine (H35.out _).mono ?_; rintro e w4 ⟨rfl, rfl⟩)
      | (go_at_call 36; refine (H36.out _).mono ?_; rintro e w4 ⟨rfl, rfl⟩)
      | fail)
    go_ret
    exact ⟨rfl, hB3⟩
  cases s3
  · go_enter Tryd.func30, Tryd.ntmps30
    go_wp2_with (first
      | (go_at_call 51; refine H51.out.mono ?_; rintro e w3 ⟨rfl, hb3⟩; obtain ⟨y0, ⟨y1, y2⟩, hB3⟩ := HBX.out w3 hb3)
      | (go_at_call 35; refine (H35.out _).mono ?_; rintro e w4 ⟨rfl, rfl⟩)
      | (go_at_call 36; refine (H36.out _).mono ?_; rintro e w4 ⟨rfl, rfl⟩)
      | fail)
    go_ret
    exact ⟨rfl, hB3⟩
  go_enter Tryd.func30, Tryd.ntmps30
  go_wp2_with (first
    | (go_at_call 51; refine H51.out.mono ?_; rintro e w3 ⟨rfl, hb3⟩; obtain ⟨y0, ⟨y1, y2⟩, hB3⟩ := HBX.out w3 hb3)
    | (go_at_call 35; refine (H35.out _).mono ?_; rintro e w4 ⟨rfl, rfl⟩)
    | (go_at_call 36; refine (H36.out _).mono ?_; rintro e w4 ⟨rfl, rfl⟩)
    | fail)
  go_ret
  exact ⟨rfl, hB3⟩
end Go.Proofs.YtomfnldlnoiloaaDoor
