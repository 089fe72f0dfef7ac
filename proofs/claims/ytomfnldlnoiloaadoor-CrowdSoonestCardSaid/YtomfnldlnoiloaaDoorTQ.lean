/- CrowdMost and CrowdSoonest: the walks. Printed by mkTQ.py. -/
import Derived.Test.YtomfnldlnoiloaaDoorF2
import Derived.Test.YtomfnldlnoiloaaDoorF3
import Derived.Test.YtomfnldlnoiloaaDoorEC
namespace Go.Proofs.YtomfnldlnoiloaaDoor
set_option linter.unusedVariables false
set_option linter.unusedSimpArgs false
open Go Go.RowKit Go.Maps

theorem MostAns.same {v : Vis} {p m a b : Int} (h : MostAns v p m a) (h' : MostAns v p m b) : a = b := by
  by_cases he : errN v p m = 0
  · obtain ⟨R, h1⟩ := h.1 he
    obtain ⟨R', h2⟩ := h'.1 he
    exact (LeastL.uniq h1 h2).1
  · rw [h.2 he, h'.2 he]
theorem WallAns.same {v : Vis} {p m : Int} {l l' : List (Int × Int)} (h : WallAns v p m l) (h' : WallAns v p m l') : l = l' := by
  by_cases he : errN v p m = 0
  · obtain ⟨_, R, h1, rfl⟩ := h.1 he
    obtain ⟨_, R', h2, rfl⟩ := h'.1 he
    rw [(LeastL.uniq h1 h2).2]
  · rw [h.2 he, h'.2 he]
theorem WallAns.few {v : Vis} {p m : Int} {l : List (Int × Int)} (h : WallAns v p m l) : l.length ≤ 488 := by
  by_cases he : errN v p m = 0
  · obtain ⟨_, R, h1, rfl⟩ := h.1 he
    obtain ⟨hv, _, h2, h3⟩ := err_zero he
    exact standsR_len hv (by omega) R
  · rw [h.2 he]; simp
set_option maxRecDepth 100000 in
set_option maxHeartbeats 16000000 in
theorem soon_any (v : Vis) (A1 A2 A3 : Option Addr) (q1 q2 q3 : Nat) (p m : Int) (w : World) (hG : GlobOk w) (hI : VisAt w w.heap.size v A1 A2 A3) (h64 : Vis64 v) (hbig : v.rm.length + v.tr.length + v.ar.length ≤ 1000000000000000) :
    Calls Tryd.prog 10 #[visV v A1 A2 A3 q1 q2 q3, I p, I m] w fun e w' => e = .returned (.bool true) ∧ Below w.heap.size w w' := by
  obtain ⟨w2, hw2⟩ : ∃ w2, w.alloc (.cells #[.slice A1 v.rm.length q1, .slice A2 v.tr.length q2, .slice A3 v.ar.length q3] 26) = w2 := ⟨_, rfl⟩
  have hz2 : w2.heap.size = w.heap.size + 1 := by rw [← hw2]; simp
  have hB2 : Below w.heap.size w w2 := by rw [← hw2]; exact below1 _ _
  have b1 : Box w2 w.heap.size [.slice A1 v.rm.length q1, .slice A2 v.tr.length q2, .slice A3 v.ar.length q3] := by rw [← hw2]; exact Box.new w [.slice A1 v.rm.length q1, .slice A2 v.tr.length q2, .slice A3 v.ar.length q3] 26
  have HX : Hid (∀ W, Below w2.heap.size w2 W → (W.cell? ⟨w.heap.size, 0, none⟩ = some (.slice A1 v.rm.length q1) ∧ W.cell? ⟨w.heap.size, 1, none⟩ = some (.slice A2 v.tr.length q2) ∧ W.cell? ⟨w.heap.size, 2, none⟩ = some (.slice A3 v.ar.length q3)) ∧ VisAt W W.heap.size v A1 A2 A3 ∧ GlobOk W ∧ Below w.heap.size w W) := Lib.hid fun W h => by
    have hb := hB2.trans (h.mono hB2.size)
    exact ⟨⟨((b1.call h).at_ 0 _ rfl).1, ((b1.call h).at_ 1 _ rfl).1, ((b1.call h).at_ 2 _ rfl).1⟩, (hI.below hb).more hb.size, hG.below hb hG.z, hb⟩
  have HB := Lib.hid (Below.refl w2.heap.size w2)
  obtain ⟨⟨x0, x1, x2⟩, -⟩ := HX.out w2 HB.out
  have H12 : Hid (∀ W, Calls Tryd.prog 12 #[visV v A1 A2 A3 q1 q2 q3] W (RetFew (v.rm.length + v.tr.length + v.ar.length ≤ 40) W)) := Lib.hid fun W => great12 v A1 A2 A3 q1 q2 q3 W hbig
  have H13 : Hid (∀ W, GlobOk W → Calls Tryd.prog 13 #[] W fun e w' => e = .returned (.bool true) ∧ Below W.heap.size W w') := Lib.hid alive13
  obtain ⟨en, hen⟩ : ∃ z, soonE v p m = z := ⟨_, rfl⟩
  have H26 : Hid (∀ W, Below w2.heap.size w2 W → Calls Tryd.prog 26 #[visV v A1 A2 A3 q1 q2 q3, I p, I m] W fun e w' => ∃ t : Int, e = .returned (.tuple #[I t, I en]) ∧ SoonAns v p m t ∧ Below W.heap.size W w') := Lib.hid fun W h => by
    have := soonest26 v h64 A1 A2 A3 q1 q2 q3 p m W (HX.out W h).2.1 (HX.out W h).2.2.1
    rw [hen] at this
    exact this
  have H27 : Hid (∀ W, Below w2.heap.size w2 W → Calls Tryd.prog 27 #[visV v A1 A2 A3 q1 q2 q3, I p, I m] W fun e w' => ∃ t : Int, e = .returned (.tuple #[I t, I en]) ∧ SoonAns v p m t ∧ Below W.heap.size W w') := Lib.hid fun W h => by
    have := soonest27 v h64 A1 A2 A3 q1 q2 q3 p m W (HX.out W h).2.1
    rw [hen] at this
    exact this
  clear b1 hB2 hI hG h64 hbig hen
  go_enter Tryd.func10, Tryd.ntmps10
  go_wp2_with (first
    | (go_at_call 12; refine (H12.out _).mono ?_; rintro e w3 ⟨b, rfl, hb, hB⟩; replace HB := Lib.hid (HB.out.trans (hB.mono HB.out.size)); clear x0 x1 x2; obtain ⟨⟨x0, x1, x2⟩, -⟩ := HX.out _ HB.out; clear hB hb)
    | (go_at_call 13; refine (H13.out _ (HX.out _ HB.out).2.2.1).mono ?_; rintro e w9 ⟨rfl, hB⟩; replace HB := Lib.hid (HB.out.trans (hB.mono HB.out.size)); clear x0 x1 x2; obtain ⟨⟨x0, x1, x2⟩, -⟩ := HX.out _ HB.out; clear hB)
    | (go_at_call 26; refine (H26.out _ HB.out).mono ?_; rintro e w4 ⟨t, rfl, hA, hB⟩; have HA := Lib.hid hA; replace HB := Lib.hid (HB.out.trans (hB.mono HB.out.size)); clear x0 x1 x2; obtain ⟨⟨x0, x1, x2⟩, -⟩ := HX.out _ HB.out; clear hB hA)
    | (go_at_call 27; refine (H27.out _ HB.out).mono ?_; rintro e w5 ⟨t', rfl, hA', hB⟩; obtain rfl := HA.out.uniq hA'; replace HB := Lib.hid (HB.out.trans (hB.mono HB.out.size)); clear x0 x1 x2; obtain ⟨⟨x0, x1, x2⟩, -⟩ := HX.out _ HB.out; clear hB hA')
    | fail)
  all_goals (refine bodyPost_ret (v := .bool true) ?_ rfl ⟨rfl, (HX.out _ HB.out).2.2.2⟩; simp [results, Tryd.results10, go_sem]; done)
set_option maxRecDepth 100000 in
set_option maxHeartbeats 16000000 in
theorem mosts_any (v : Vis) (A1 A2 A3 : Option Addr) (q1 q2 q3 : Nat) (p m : Int) (w : World) (hG : GlobOk w) (hI : VisAt w w.heap.size v A1 A2 A3) (h64 : Vis64 v) (hbig : v.rm.length + v.tr.length + v.ar.length ≤ 1000000000000000) :
    Calls Tryd.prog 4 #[visV v A1 A2 A3 q1 q2 q3, I p, I m] w fun e w' => e = .returned (.bool true) ∧ Below w.heap.size w w' := by
  obtain ⟨w2, hw2⟩ : ∃ w2, w.alloc (.cells #[.slice A1 v.rm.length q1, .slice A2 v.tr.length q2, .slice A3 v.ar.length q3] 26) = w2 := ⟨_, rfl⟩
  have hz2 : w2.heap.size = w.heap.size + 1 := by rw [← hw2]; simp
  have hB2 : Below w.heap.size w w2 := by rw [← hw2]; exact below1 _ _
  have b1 : Box w2 w.heap.size [.slice A1 v.rm.length q1, .slice A2 v.tr.length q2, .slice A3 v.ar.length q3] := by rw [← hw2]; exact Box.new w [.slice A1 v.rm.length q1, .slice A2 v.tr.length q2, .slice A3 v.ar.length q3] 26
  have HX : Hid (∀ W, Below w2.heap.size w2 W → (W.cell? ⟨w.heap.size, 0, none⟩ = some (.slice A1 v.rm.length q1) ∧ W.cell? ⟨w.heap.size, 1, none⟩ = some (.slice A2 v.tr.length q2) ∧ W.cell? ⟨w.heap.size, 2, none⟩ = some (.slice A3 v.ar.length q3)) ∧ VisAt W W.heap.size v A1 A2 A3 ∧ GlobOk W ∧ Below w.heap.size w W) := Lib.hid fun W h => by
    have hb := hB2.trans (h.mono hB2.size)
    exact ⟨⟨((b1.call h).at_ 0 _ rfl).1, ((b1.call h).at_ 1 _ rfl).1, ((b1.call h).at_ 2 _ rfl).1⟩, (hI.below hb).more hb.size, hG.below hb hG.z, hb⟩
  have HB := Lib.hid (Below.refl w2.heap.size w2)
  obtain ⟨⟨x0, x1, x2⟩, -⟩ := HX.out w2 HB.out
  have H12 : Hid (∀ W, Calls Tryd.prog 12 #[visV v A1 A2 A3 q1 q2 q3] W (RetFew (v.rm.length + v.tr.length + v.ar.length ≤ 40) W)) := Lib.hid fun W => great12 v A1 A2 A3 q1 q2 q3 W hbig
  have H13 : Hid (∀ W, GlobOk W → Calls Tryd.prog 13 #[] W fun e w' => e = .returned (.bool true) ∧ Below W.heap.size W w') := Lib.hid alive13
  obtain ⟨en, hen⟩ : ∃ z, errN v p m = z := ⟨_, rfl⟩
  have H16 : Hid (∀ W, Below w2.heap.size w2 W → Calls Tryd.prog 16 #[visV v A1 A2 A3 q1 q2 q3, I p, I m] W fun e w' => ∃ t : Int, e = .returned (.tuple #[I t, I en]) ∧ MostAns v p m t ∧ Below W.heap.size W w') := Lib.hid fun W h => by
    have := most16 v h64 A1 A2 A3 q1 q2 q3 p m W (HX.out W h).2.1 (HX.out W h).2.2.1
    rw [hen] at this
    exact this
  have H17 : Hid (∀ W, Below w2.heap.size w2 W → Calls Tryd.prog 17 #[visV v A1 A2 A3 q1 q2 q3, I p, I m] W fun e w' => ∃ t : Int, e = .returned (.tuple #[I t, I en]) ∧ MostAns v p m t ∧ Below W.heap.size W w') := Lib.hid fun W h => by
    have := most17 v h64 A1 A2 A3 q1 q2 q3 p m W (HX.out W h).2.1
    rw [hen] at this
    exact this
  have H18 : Hid (∀ W, Below w2.heap.size w2 W → Calls Tryd.prog 18 #[visV v A1 A2 A3 q1 q2 q3, I p, I m] W fun e w' => ∃ (A : Option Addr) (c : Nat) (la : List (Int × Int)), e = .returned (.tuple #[.slice A la.length c, I en]) ∧ WallAns v p m la ∧ Twos w' w'.heap.size A la ∧ Below W.heap.size W w') := Lib.hid fun W h => by
    have := wall18 v h64 A1 A2 A3 q1 q2 q3 p m W (HX.out W h).2.1 (HX.out W h).2.2.1
    rw [hen] at this
    refine this.mono ?_
    rintro e w' ⟨A, c, la, h1, h2, h3, h4, _⟩
    exact ⟨A, c, la, h1, h2, h3.1, h4⟩
  have H19 : Hid (∀ W, Below w2.heap.size w2 W → Calls Tryd.prog 19 #[visV v A1 A2 A3 q1 q2 q3, I p, I m] W fun e w' => ∃ (A : Option Addr) (c : Nat) (la : List (Int × Int)), e = .returned (.tuple #[.slice A la.length c, I en]) ∧ WallAns v p m la ∧ Twos w' w'.heap.size A la ∧ Below W.heap.size W w') := Lib.hid fun W h => by
    have := wall19 v h64 A1 A2 A3 q1 q2 q3 p m W (HX.out W h).2.1
    rw [hen] at this
    exact this
  have H20 : Hid (∀ (A B : Option Addr) (c d : Nat) (la : List (Int × Int)) W, la.length ≤ 488 → Twos W W.heap.size A la → Twos W W.heap.size B la → Calls Tryd.prog 20 #[.slice A la.length c, .slice B la.length d] W fun e w' => e = .returned (.bool true) ∧ Below W.heap.size W w') := Lib.hid fun A B c d la W hl h h' => by
    have := stands20 A B c d la la W h h' (by omega) (by omega)
    simpa using this
  clear b1 hB2 hI hG h64 hbig hen
  by_cases hm1 : (30 : Int) < m
  · by_cases hm2 : m ≤ (60 : Int)
    · go_enter Tryd.func4, Tryd.ntmps4
      go_wp2_with (first
        | (go_at_call 12; refine (H12.out _).mono ?_; rintro e w3 ⟨b, rfl, hb, hB⟩; replace HB := Lib.hid (HB.out.trans (hB.mono HB.out.size)); clear x0 x1 x2; obtain ⟨⟨x0, x1, x2⟩, -⟩ := HX.out _ HB.out; clear hB hb)
        | (go_at_call 13; refine (H13.out _ (HX.out _ HB.out).2.2.1).mono ?_; rintro e w9 ⟨rfl, hB⟩; replace HB := Lib.hid (HB.out.trans (hB.mono HB.out.size)); clear x0 x1 x2; obtain ⟨⟨x0, x1, x2⟩, -⟩ := HX.out _ HB.out; clear hB)
        | fail)
      all_goals (refine bodyPost_ret (v := .bool true) ?_ rfl ⟨rfl, (HX.out _ HB.out).2.2.2⟩; simp [results, Tryd.results4, go_sem]; done)
    · go_enter Tryd.func4, Tryd.ntmps4
      go_wp2_with (first
        | (go_at_call 12; refine (H12.out _).mono ?_; rintro e w3 ⟨b, rfl, hb, hB⟩; replace HB := Lib.hid (HB.out.trans (hB.mono HB.out.size)); clear x0 x1 x2; obtain ⟨⟨x0, x1, x2⟩, -⟩ := HX.out _ HB.out; clear hB hb)
        | (go_at_call 13; refine (H13.out _ (HX.out _ HB.out).2.2.1).mono ?_; rintro e w9 ⟨rfl, hB⟩; replace HB := Lib.hid (HB.out.trans (hB.mono HB.out.size)); clear x0 x1 x2; obtain ⟨⟨x0, x1, x2⟩, -⟩ := HX.out _ HB.out; clear hB)
        | (go_at_call 16; refine (H16.out _ HB.out).mono ?_; rintro e w4 ⟨t, rfl, hA, hB⟩; have HA := Lib.hid hA; replace HB := Lib.hid (HB.out.trans (hB.mono HB.out.size)); clear x0 x1 x2; obtain ⟨⟨x0, x1, x2⟩, -⟩ := HX.out _ HB.out; clear hB hA)
        | (go_at_call 17; refine (H17.out _ HB.out).mono ?_; rintro e w5 ⟨t', rfl, hA', hB⟩; obtain rfl := HA.out.same hA'; replace HB := Lib.hid (HB.out.trans (hB.mono HB.out.size)); clear x0 x1 x2; obtain ⟨⟨x0, x1, x2⟩, -⟩ := HX.out _ HB.out; clear hB hA')
        | (go_at_call 18; refine (H18.out _ HB.out).mono ?_; rintro e w6 ⟨A, c, la, rfl, hW, hT, hB⟩; have HW := Lib.hid hW; have HT := Lib.hid hT; have hla := hW.few; replace HB := Lib.hid (HB.out.trans (hB.mono HB.out.size)); clear x0 x1 x2; obtain ⟨⟨x0, x1, x2⟩, -⟩ := HX.out _ HB.out; clear hB hW hT)
        | (go_at_call 19; refine (H19.out _ HB.out).mono ?_; rintro e w7 ⟨A', c', la', rfl, hW', hT', hB⟩; obtain rfl := HW.out.same hW'; have HT' := Lib.hid hT'; replace HT := Lib.hid ((HT.out.below hB).more hB.size); replace HB := Lib.hid (HB.out.trans (hB.mono HB.out.size)); clear x0 x1 x2; obtain ⟨⟨x0, x1, x2⟩, -⟩ := HX.out _ HB.out; clear hB hW' hT')
        | (go_at_call 20; refine (H20.out A A' c c' la _ hla HT.out HT'.out).mono ?_; rintro e w8 ⟨rfl, hB⟩; replace HB := Lib.hid (HB.out.trans (hB.mono HB.out.size)); clear x0 x1 x2; obtain ⟨⟨x0, x1, x2⟩, -⟩ := HX.out _ HB.out; clear hB)
        | fail)
      all_goals (refine bodyPost_ret (v := .bool true) ?_ rfl ⟨rfl, (HX.out _ HB.out).2.2.2⟩; simp [results, Tryd.results4, go_sem]; done)
  · go_enter Tryd.func4, Tryd.ntmps4
    go_wp2_with (first
      | (go_at_call 12; refine (H12.out _).mono ?_; rintro e w3 ⟨b, rfl, hb, hB⟩; replace HB := Lib.hid (HB.out.trans (hB.mono HB.out.size)); clear x0 x1 x2; obtain ⟨⟨x0, x1, x2⟩, -⟩ := HX.out _ HB.out; clear hB hb)
      | (go_at_call 13; refine (H13.out _ (HX.out _ HB.out).2.2.1).mono ?_; rintro e w9 ⟨rfl, hB⟩; replace HB := Lib.hid (HB.out.trans (hB.mono HB.out.size)); clear x0 x1 x2; obtain ⟨⟨x0, x1, x2⟩, -⟩ := HX.out _ HB.out; clear hB)
      | (go_at_call 16; refine (H16.out _ HB.out).mono ?_; rintro e w4 ⟨t, rfl, hA, hB⟩; have HA := Lib.hid hA; replace HB := Lib.hid (HB.out.trans (hB.mono HB.out.size)); clear x0 x1 x2; obtain ⟨⟨x0, x1, x2⟩, -⟩ := HX.out _ HB.out; clear hB hA)
      | (go_at_call 17; refine (H17.out _ HB.out).mono ?_; rintro e w5 ⟨t', rfl, hA', hB⟩; obtain rfl := HA.out.same hA'; replace HB := Lib.hid (HB.out.trans (hB.mono HB.out.size)); clear x0 x1 x2; obtain ⟨⟨x0, x1, x2⟩, -⟩ := HX.out _ HB.out; clear hB hA')
      | (go_at_call 18; refine (H18.out _ HB.out).mono ?_; rintro e w6 ⟨A, c, la, rfl, hW, hT, hB⟩; have HW := Lib.hid hW; have HT := Lib.hid hT; have hla := hW.few; replace HB := Lib.hid (HB.out.trans (hB.mono HB.out.size)); clear x0 x1 x2; obtain ⟨⟨x0, x1, x2⟩, -⟩ := HX.out _ HB.out; clear hB hW hT)
      | (go_at_call 19; refine (H19.out _ HB.out).mono ?_; rintro e w7 ⟨A', c', la', rfl, hW', hT', hB⟩; obtain rfl := HW.out.same hW'; have HT' := Lib.hid hT'; replace HT := Lib.hid ((HT.out.below hB).more hB.size); replace HB := Lib.hid (HB.out.trans (hB.mono HB.out.size)); clear x0 x1 x2; obtain ⟨⟨x0, x1, x2⟩, -⟩ := HX.out _ HB.out; clear hB hW' hT')
      | (go_at_call 20; refine (H20.out A A' c c' la _ hla HT.out HT'.out).mono ?_; rintro e w8 ⟨rfl, hB⟩; replace HB := Lib.hid (HB.out.trans (hB.mono HB.out.size)); clear x0 x1 x2; obtain ⟨⟨x0, x1, x2⟩, -⟩ := HX.out _ HB.out; clear hB)
      | fail)
    all_goals (refine bodyPost_ret (v := .bool true) ?_ rfl ⟨rfl, (HX.out _ HB.out).2.2.2⟩; simp [results, Tryd.results4, go_sem]; done)
end Go.Proofs.YtomfnldlnoiloaaDoor
