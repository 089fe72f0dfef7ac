/- CrowdSees: the walk. -/
import Derived.Test.YtomfnldlnoiloaaDoorF2
import Derived.Test.YtomfnldlnoiloaaDoorF3
import Derived.Test.YtomfnldlnoiloaaDoorD8
namespace Go.Proofs.YtomfnldlnoiloaaDoor
set_option linter.unusedVariables false
set_option linter.unusedSimpArgs false
open Go Go.RowKit Go.Maps

set_option maxRecDepth 100000 in
set_option maxHeartbeats 16000000 in
theorem sees_any (v : Vis) (A1 A2 A3 : Option Addr) (q1 q2 q3 : Nat) (AL : Option Addr) (ql : Nat) (l : List Mv) (p m : Int) (w : World) (hG : GlobOk w) (hI : VisAt w w.heap.size v A1 A2 A3) (h64 : Vis64 v) (hL : Threes w w.heap.size AL l) (hll : l.length ≤ 9223372036854775807)
    (hbig : v.rm.length + v.tr.length + v.ar.length ≤ 1000000000000000) :
    Calls Tryd.prog 3 #[visV v A1 A2 A3 q1 q2 q3, .slice AL l.length ql, I p, I m] w fun e w' => e = .returned (.bool true) ∧ Below w.heap.size w w' := by
  obtain ⟨w2, hw2⟩ : ∃ w2, w.alloc (.cells #[.slice A1 v.rm.length q1, .slice A2 v.tr.length q2, .slice A3 v.ar.length q3] 26) = w2 := ⟨_, rfl⟩
  have hz2 : w2.heap.size = w.heap.size + 1 := by rw [← hw2]; simp
  have hB2 : Below w.heap.size w w2 := by rw [← hw2]; exact below1 _ _
  have b1 : Box w2 w.heap.size [.slice A1 v.rm.length q1, .slice A2 v.tr.length q2, .slice A3 v.ar.length q3] := by rw [← hw2]; exact Box.new w [.slice A1 v.rm.length q1, .slice A2 v.tr.length q2, .slice A3 v.ar.length q3] 26
  have HX : Hid (∀ W, Below w2.heap.size w2 W → (W.cell? ⟨w.heap.size, 0, none⟩ = some (.slice A1 v.rm.length q1) ∧ W.cell? ⟨w.heap.size, 1, none⟩ = some (.slice A2 v.tr.length q2) ∧ W.cell? ⟨w.heap.size, 2, none⟩ = some (.slice A3 v.ar.length q3)) ∧ VisAt W W.heap.size v A1 A2 A3 ∧ Threes W W.heap.size AL l ∧ GlobOk W ∧ Below w.heap.size w W) := Lib.hid fun W h => by
    have hb := hB2.trans (h.mono hB2.size)
    exact ⟨⟨((b1.call h).at_ 0 _ rfl).1, ((b1.call h).at_ 1 _ rfl).1, ((b1.call h).at_ 2 _ rfl).1⟩, (hI.below hb).more hb.size, (hL.below hb).more hb.size, hG.below hb hG.z, hb⟩
  have HB := Lib.hid (Below.refl w2.heap.size w2)
  obtain ⟨⟨x0, x1, x2⟩, _⟩ := HX.out w2 HB.out
  have H12 : Hid (∀ W, Calls Tryd.prog 12 #[visV v A1 A2 A3 q1 q2 q3] W (RetFew (v.rm.length + v.tr.length + v.ar.length ≤ 40) W)) := Lib.hid fun W => great12 v A1 A2 A3 q1 q2 q3 W hbig
  have H13 : Hid (∀ W, GlobOk W → Calls Tryd.prog 13 #[] W fun e w' => e = .returned (.bool true) ∧ Below W.heap.size W w') := Lib.hid alive13
  obtain ⟨z1, hz1⟩ : ∃ z, (seeV v l p m).1 = z := ⟨_, rfl⟩
  obtain ⟨z2, hz2'⟩ : ∃ z, (seeV v l p m).2.1 = z := ⟨_, rfl⟩
  obtain ⟨z3, hz3⟩ : ∃ z, (seeV v l p m).2.2 = z := ⟨_, rfl⟩
  have H14 : Hid (∀ W, Below w2.heap.size w2 W → Calls Tryd.prog 14 #[visV v A1 A2 A3 q1 q2 q3, .slice AL l.length ql, I p, I m] W fun e w' => e = .returned (.tuple #[I z1, I z2, I z3]) ∧ Below W.heap.size W w') := Lib.hid fun W h => by
    have := see14 v h64 A1 A2 A3 AL q1 q2 q3 ql l p m W (HX.out W h).2.1 (HX.out W h).2.2.1
    unfold SeeEnds at this
    rw [hz1, hz2', hz3] at this
    exact this
  have H15 : Hid (∀ W, Below w2.heap.size w2 W → Calls Tryd.prog 15 #[visV v A1 A2 A3 q1 q2 q3, .slice AL l.length ql, I p, I m] W fun e w' => e = .returned (.tuple #[I z1, I z2, I z3]) ∧ Below W.heap.size W w') := Lib.hid fun W h => by
    have := see15 v h64 A1 A2 A3 AL q1 q2 q3 ql l p m W (HX.out W h).2.1 (HX.out W h).2.2.1
    unfold SeeEnds at this
    rw [hz1, hz2', hz3] at this
    exact this
  clear b1 hB2 hI hL hG h64 hbig hz1 hz2' hz3
  go_enter Tryd.func3, Tryd.ntmps3
  go_wp2_with (first
    | (go_at_call 12; refine (H12.out _).mono ?_; rintro e w3 ⟨b, rfl, hb, hB⟩; replace HB := Lib.hid (HB.out.trans (hB.mono HB.out.size)); clear x0 x1 x2; obtain ⟨⟨x0, x1, x2⟩, _⟩ := HX.out _ HB.out; clear hB hb)
    | (go_at_call 13; refine (H13.out _ (HX.out _ HB.out).2.2.2.1).mono ?_; rintro e w9 ⟨rfl, hB⟩; replace HB := Lib.hid (HB.out.trans (hB.mono HB.out.size)); clear x0 x1 x2; obtain ⟨⟨x0, x1, x2⟩, _⟩ := HX.out _ HB.out; clear hB)
    | (go_at_call 14; refine (H14.out _ HB.out).mono ?_; rintro e w4 ⟨rfl, hB⟩; replace HB := Lib.hid (HB.out.trans (hB.mono HB.out.size)); clear x0 x1 x2; obtain ⟨⟨x0, x1, x2⟩, _⟩ := HX.out _ HB.out; clear hB)
    | (go_at_call 15; refine (H15.out _ HB.out).mono ?_; rintro e w5 ⟨rfl, hB⟩; replace HB := Lib.hid (HB.out.trans (hB.mono HB.out.size)); clear x0 x1 x2; obtain ⟨⟨x0, x1, x2⟩, _⟩ := HX.out _ HB.out; clear hB)
    | fail)
  all_goals (refine bodyPost_ret (v := .bool true) ?_ rfl ⟨rfl, (HX.out _ HB.out).2.2.2.2⟩; simp [results, Tryd.results3, go_sem]; done)
end Go.Proofs.YtomfnldlnoiloaaDoor
