/- WellsFlows: the walk. -/
import Derived.Test.YtgdilbilhajgaaaDoorD4
namespace Go.Proofs.YtgdilbilhajgaaaDoor
set_option linter.unusedVariables false
set_option linter.unusedSimpArgs false
open Go Go.RowKit

def FlO (x : List (Int × Int)) (r : Int) (w : World) (e : Ending) (w' : World) : Prop := ∃ A c, e = .returned (.tuple #[.slice A x.length c, I r]) ∧ Pairs w' w'.heap.size A x ∧ x.length ≤ 100 ∧ Below w.heap.size w w'
def OvO (x y : List Int) (r : Int) (w : World) (e : Ending) (w' : World) : Prop := ∃ A c A2 c2, e = .returned (.tuple #[.slice A x.length c, .slice A2 y.length c2, I r]) ∧ Ints w' w'.heap.size A x ∧ Ints w' w'.heap.size A2 y ∧ x.length ≤ 100 ∧ y.length ≤ 100 ∧ Below w.heap.size w w'
set_option maxRecDepth 100000 in
set_option maxHeartbeats 8000000 in
theorem wflows_any (A : Option Addr) (c : Nat) (m : List (Int × Int)) (B : Option Addr) (d : Nat) (l : List (Int × Int × Int)) (w : World) (hT : TabOk w) (hm : Pairs w w.heap.size A m) (hml : m.length ≤ 9223372036854775807) (hl : Threes w w.heap.size B l) (hll : l.length ≤ 9223372036854775807) :
    Calls Tryd.prog 5 #[.slice A m.length c, .slice B l.length d] w fun e w' => e = .returned (.bool true) ∧ Below w.heap.size w w' := by
  have HA : Hid (∀ W, Below w.heap.size w W → Calls Tryd.prog 12 #[] W fun e w' => e = .returned (.bool true) ∧ Below W.heap.size W w') := Lib.hid fun W h => alive12 W (hT.below h)
  have HG : Hid (∀ W, Calls Tryd.prog 11 #[.slice A m.length c, .slice B l.length d, I 24] W fun e w' => e = .returned (.bool (greatB m.length l.length 24)) ∧ W = w') := Lib.hid fun W => great11 A B m.length c l.length d 24 W
  have HF1 : Hid (∀ W, Below w.heap.size w W → Calls Tryd.prog 18 #[.slice A m.length c, .slice B l.length d] W (FlOut (flR m l) W)) := Lib.hid fun W h => (flows18 A B c d m l W ((hm.below h).more h.size) hml ((hl.below h).more h.size) hll).mono fun e w' h => h.out
  have HF2 : Hid (∀ W, Below w.heap.size w W → Calls Tryd.prog 22 #[.slice A m.length c, .slice B l.length d] W (FlOut (flR m l) W)) := Lib.hid fun W h => flows22 A B c d m l W ((hm.below h).more h.size) hml ((hl.below h).more h.size) hll
  have HO1 : Hid (∀ W, Below w.heap.size w W → Calls Tryd.prog 23 #[.slice A m.length c, .slice B l.length d] W (OvOut (ovR m l) W)) := Lib.hid fun W h => (over23 A B c d m l W ((hm.below h).more h.size) hml ((hl.below h).more h.size) hll).mono fun e w' h => h.out
  have HO2 : Hid (∀ W, Below w.heap.size w W → Calls Tryd.prog 24 #[.slice A m.length c, .slice B l.length d] W (OvOut (ovR m l) W)) := Lib.hid fun W h => over24 A B c d m l W ((hm.below h).more h.size) hml ((hl.below h).more h.size) hll
  have HS : Hid (∀ A1 c1 A2 c2 (xs : List (Int × Int)) W, Pairs W W.heap.size A1 xs → Pairs W W.heap.size A2 xs → xs.length ≤ 100 → Calls Tryd.prog 25 #[.slice A1 xs.length c1, .slice A2 xs.length c2] W fun e w' => e = .returned (.bool true) ∧ Below W.heap.size W w') := Lib.hid fun A1 c1 A2 c2 xs W h1 h2 h3 =>
    (spans25 A1 A2 c1 c2 xs xs W h1 h2 (by omega) (by omega)).mono fun e w' ⟨h, h'⟩ => ⟨by rw [h]; simp, h'⟩
  have HI : Hid (∀ A1 c1 A2 c2 (xs : List Int) W, Ints W W.heap.size A1 xs → Ints W W.heap.size A2 xs → xs.length ≤ 100 → Calls Tryd.prog 17 #[.slice A1 xs.length c1, .slice A2 xs.length c2] W fun e w' => e = .returned (.bool true) ∧ Below W.heap.size W w') := Lib.hid fun A1 c1 A2 c2 xs W h1 h2 h3 =>
    (ints17 A1 A2 c1 c2 xs xs W h1 h2 (by omega) (by omega)).mono fun e w' ⟨h, h'⟩ => ⟨by rw [h]; simp, h'⟩
  generalize flR m l = fr at *
  generalize ovR m l = ov at *
  obtain ⟨fx, fe⟩ := fr
  obtain ⟨ox, oy, oe⟩ := ov
  replace HF1 : Hid (∀ W, Below w.heap.size w W → Calls Tryd.prog 18 #[.slice A m.length c, .slice B l.length d] W (FlO fx fe W)) := HF1
  replace HF2 : Hid (∀ W, Below w.heap.size w W → Calls Tryd.prog 22 #[.slice A m.length c, .slice B l.length d] W (FlO fx fe W)) := HF2
  replace HO1 : Hid (∀ W, Below w.heap.size w W → Calls Tryd.prog 23 #[.slice A m.length c, .slice B l.length d] W (OvO ox oy oe W)) := HO1
  replace HO2 : Hid (∀ W, Below w.heap.size w W → Calls Tryd.prog 24 #[.slice A m.length c, .slice B l.length d] W (OvO ox oy oe W)) := HO2
  clear hT hm hl
  cases hg : greatB m.length l.length 24
  · rw [hg] at HG
    go_enter Tryd.func5, Tryd.ntmps5
    go_wp2_with (first
      | (go_at_call 11; refine (HG.out _).mono ?_; rintro e w0 ⟨rfl, rfl⟩)
      | (go_at_call 18; refine (HF1.out _ (Below.refl _ _)).mono ?_; rintro e w1 ⟨A1, c1, rfl, hP1, hz1, hB1⟩; have HP1 := Lib.hid hP1; clear hP1)
      | (go_at_call 22; refine (HF2.out _ hB1).mono ?_; rintro e w2 ⟨A2, c2, rfl, hP2, _, hB2⟩; have hB12 := hB1.trans (hB2.mono hB1.size); have HP2 := Lib.hid hP2; have HP12 := Lib.hid ((HP1.out.below hB2).more hB2.size); clear hP2 HP1)
      | (go_at_call 23; refine (HO1.out _ hB12).mono ?_; rintro e w3 ⟨A3, c3, A4, c4, rfl, h3, h4, hz3, hz4, hB3⟩; have hB13 := hB12.trans (hB3.mono hB12.size); have H3 := Lib.hid h3; have H4 := Lib.hid h4; have HP13 := Lib.hid ((HP12.out.below hB3).more hB3.size); have HP23 := Lib.hid ((HP2.out.below hB3).more hB3.size); clear h3 h4 HP12 HP2)
      | (go_at_call 24; refine (HO2.out _ hB13).mono ?_; rintro e w4 ⟨A5, c5, A6, c6, rfl, h5, h6, _, _, hB4⟩; have hB14 := hB13.trans (hB4.mono hB13.size); have H5 := Lib.hid h5; have H6 := Lib.hid h6; have HP14 := Lib.hid ((HP13.out.below hB4).more hB4.size); have HP24 := Lib.hid ((HP23.out.below hB4).more hB4.size); have H34 := Lib.hid ((H3.out.below hB4).more hB4.size); have H44 := Lib.hid ((H4.out.below hB4).more hB4.size); clear h5 h6 HP13 HP23 H3 H4)
      | (go_at_call 25; refine (HS.out _ _ _ _ fx _ HP14.out HP24.out hz1).mono ?_; rintro e w5 ⟨rfl, hB5⟩; have hB15 := hB14.trans (hB5.mono hB14.size))
      | (go_at_call 17; refine (HI.out _ _ _ _ ox _ ((H34.out.below hB5).more hB5.size) ((H5.out.below hB5).more hB5.size) hz3).mono ?_; rintro e w6 ⟨rfl, hB6⟩; have hB46 := hB5.trans (hB6.mono hB5.size); clear H34 H5)
      | (go_at_call 17; refine (HI.out _ _ _ _ oy _ ((H44.out.below hB46).more hB46.size) ((H6.out.below hB46).more hB46.size) hz4).mono ?_; rintro e w7 ⟨rfl, hB7⟩; have hB47 := hB46.trans (hB7.mono hB46.size); have hB17 := hB14.trans (hB47.mono hB14.size))
      | (go_at_call 12; refine (HA.out _ hB17).mono ?_; rintro e w8 ⟨rfl, hB8⟩)
      | fail)
    go_ret
    exact ⟨rfl, hB17.trans (hB8.mono hB17.size)⟩
  · rw [hg] at HG
    go_enter Tryd.func5, Tryd.ntmps5
    go_wp2_with (first
      | (go_at_call 11; refine (HG.out _).mono ?_; rintro e w0 ⟨rfl, rfl⟩)
      | (go_at_call 12; refine (HA.out _ (Below.refl _ _)).mono ?_; rintro e w8 ⟨rfl, hB8⟩)
      | fail)
    go_ret
    exact ⟨rfl, hB8⟩
end Go.Proofs.YtgdilbilhajgaaaDoor
