/- The document's Holds. -/
import Derived.Test.YtijgfdncocjncaaD7
namespace Go.Proofs.Ytijgfdncocjncaa
set_option linter.unusedVariables false
set_option linter.unusedSimpArgs false
open Go Go.RowKit

set_option maxRecDepth 100000 in
set_option maxHeartbeats 4000000 in
theorem holds11 (x : Wat) (A B : Option Addr) (c d : Nat) (f t : Int) (w : World) (h64 : Wat64 x) (hW : WatAt w x A B) :
    Calls Try.prog 11 #[x.val A c B d, .agg #[I f, I t]] w fun e w' => e = .returned (tup3 (hldR x f t)) ∧ Below w.heap.size w w' := by
  have H20 : Hid (∀ W, Below w.heap.size w W → Calls Try.prog 20 #[x.val A c B d] W fun e w' => e = .returned (.bool (watB x)) ∧ Below W.heap.size W w') := Lib.hid fun W h => watch20 x A B c d W h64 (hW.below h)
  have H24 : Hid (∀ W, Calls Try.prog 24 #[x.val A c B d, .agg #[I f, I t]] W fun e w' => e = .returned (.bool (inB f 0 ((x.n : Int) - 1) && inB t 0 ((x.n : Int) - 1) && !(f == t))) ∧ Below W.heap.size W w') := Lib.hid fun W => of24 x A B c d f t W h64.hlen
  have HB0 : Hid (Below w.heap.size w ((w.alloc (.cells #[.slice A x.hb.length c, .slice B x.er.length d, I x.en] 25)).alloc (.cells #[I f, I t] 27))) := Lib.hid (by (repeat' (first | assumption | exact Below.refl _ _ | refine Below.drew ?_ | refine below_drewN ?_ _ | refine Below.setCell ?_ (by first | omega | (simp; done) | (simp; omega)) _ | refine Below.alloc ?_ (by first | omega | (simp; done) | (simp; omega)) _ | refine Below.trans ?_ (Below.mono (by assumption) (by first | omega | (simp; done) | (simp; omega))))))
  have HX0 : Hid (Box ((w.alloc (.cells #[.slice A x.hb.length c, .slice B x.er.length d, I x.en] 25)).alloc (.cells #[I f, I t] 27)) w.heap.size [.slice A x.hb.length c, .slice B x.er.length d, I x.en]) := Lib.hid ((Box.new w [.slice A x.hb.length c, .slice B x.er.length d, I x.en] 25).alloc _)
  have HL0 : Hid (Box ((w.alloc (.cells #[.slice A x.hb.length c, .slice B x.er.length d, I x.en] 25)).alloc (.cells #[I f, I t] 27)) (w.heap.size + 1) [I f, I t]) := Lib.hid (by have := Box.new (w.alloc (.cells #[.slice A x.hb.length c, .slice B x.er.length d, I x.en] 25)) [I f, I t] 27; simpa only [World.size_alloc] using this)
  have HZ0 : Hid (((w.alloc (.cells #[.slice A x.hb.length c, .slice B x.er.length d, I x.en] 25)).alloc (.cells #[I f, I t] 27)).heap.size = w.heap.size + 2) := Lib.hid (by simp)
  have HRA : Hid (watB x = false → hldR x f t = (false, 0, 1)) := Lib.hid fun h => by unfold hldR; rw [h]; rfl
  have HRD : Hid (watB x = true → hldR x f t = if inB f 0 ((x.hb.length : Int) - 1) && inB t 0 ((x.hb.length : Int) - 1) && !(f == t) then ((ref x f.toNat t.toNat).isNone, optI (ref x f.toNat t.toNat), 0) else (false, 0, 2)) := Lib.hid fun h => by unfold hldR; rw [h]; rfl
  have H32 : Hid (∀ W, watB x = true → Below w.heap.size w W → inB f 0 ((x.hb.length : Int) - 1) && inB t 0 ((x.hb.length : Int) - 1) && !(f == t) → Calls Try.prog 32 #[x.val A c B d, .agg #[I f, I t]] W fun e w' => e = .returned (I (optI (ref x f.toNat t.toNat))) ∧ Below W.heap.size W w') := Lib.hid fun W h1 h2 h3 => by
    rw [Bool.and_eq_true, Bool.and_eq_true] at h3
    obtain ⟨fn, rfl, _⟩ := inB_nat h3.1.1
    obtain ⟨tn, rfl, htn⟩ := inB_nat h3.1.2
    rw [Int.toNat_natCast, Int.toNat_natCast]
    exact refuted32 x A B c d fn tn W (watB_iff.1 h1) (hW.below h2) htn
  change Hid (∀ W, Calls Try.prog 24 #[x.val A c B d, .agg #[I f, I t]] W fun e w' => e = .returned (.bool (inB f 0 ((x.hb.length : Int) - 1) && inB t 0 ((x.hb.length : Int) - 1) && !(f == t))) ∧ Below W.heap.size W w') at H24
  clear h64 hW
  generalize (inB f 0 ((x.hb.length : Int) - 1) && inB t 0 ((x.hb.length : Int) - 1) && !(f == t)) = of_ at *
  obtain ⟨wb, hwb⟩ : ∃ wb, watB x = wb := ⟨_, rfl⟩
  rw [hwb] at H20 HRA HRD H32
  clear hwb
  obtain ⟨ro, hro⟩ : ∃ ro, ref x f.toNat t.toNat = ro := ⟨_, rfl⟩
  rw [hro] at HRD H32
  clear hro
  unfold Wat.val at H20 H24 H32 ⊢
  have hoi : decide (optI ro < 0) = ro.isNone := by
    cases ro with
    | none => rfl
    | some a => exact decide_eq_false (show ¬ ((a : Nat) : Int) < 0 by omega)
  generalize optI ro = oi at *
  generalize ro.isNone = on at *
  cases wb
  · have HR := Lib.hid (HRA.out rfl)
    clear HRA HRD H32
    go_enter Try.func11, Try.ntmps11
    go_wp2_with (first
      | (go_at_call 20; refine (H20.out _ HB0.out).mono ?_; rintro e w1 ⟨rfl, hB1⟩)
      | fail)
    refine bodyPost_ret (v := tup3 (false, 0, 1)) (by simp [results, Try.results11, go_sem, tup3]) rfl ⟨by rw [HR.out], HB0.out.trans (hB1.mono (by have := HZ0.out; omega))⟩
  · have HR := Lib.hid (HRD.out rfl)
    have H32t := Lib.hid fun W => H32.out W rfl
    clear HRA HRD H32
    cases of_
    · go_enter Try.func11, Try.ntmps11
      go_wp2_with (first
        | (go_at_call 20; generalize (w.alloc (.cells #[.slice A x.hb.length c, .slice B x.er.length d, I x.en] 25)).alloc (.cells #[I f, I t] 27) = wa at *; refine (H20.out _ HB0.out).mono ?_; rintro e w1 ⟨rfl, hB1⟩; have hx1 := HX0.out.call hB1; have hl1 := HL0.out.call hB1; obtain ⟨m0, _⟩ := hl1.at_ 0 _ rfl; obtain ⟨m1, _⟩ := hl1.at_ 1 _ rfl; obtain ⟨k0, _⟩ := hx1.at_ 0 _ rfl; obtain ⟨k1, _⟩ := hx1.at_ 1 _ rfl; obtain ⟨k2, _⟩ := hx1.at_ 2 _ rfl)
        | (go_at_call 24; refine (H24.out _).mono ?_; rintro e w2 ⟨rfl, hB2⟩)
        | fail)
      refine bodyPost_ret (v := tup3 (false, 0, 2)) (by simp [results, Try.results11, go_sem, tup3]) rfl ⟨by rw [HR.out]; rfl, HB0.out.trans ((hB1.trans (hB2.mono hB1.size)).mono (by have := HZ0.out; omega))⟩
    · have H32u := Lib.hid fun W h => H32t.out W h rfl
      clear H32t
      go_enter Try.func11, Try.ntmps11
      go_wp2_with (first
        | (go_at_call 20; generalize (w.alloc (.cells #[.slice A x.hb.length c, .slice B x.er.length d, I x.en] 25)).alloc (.cells #[I f, I t] 27) = wa at *; refine (H20.out _ HB0.out).mono ?_; rintro e w1 ⟨rfl, hB1⟩; have hx1 := HX0.out.call hB1; have hl1 := HL0.out.call hB1; obtain ⟨m0, _⟩ := hl1.at_ 0 _ rfl; obtain ⟨m1, _⟩ := hl1.at_ 1 _ rfl; obtain ⟨k0, _⟩ := hx1.at_ 0 _ rfl; obtain ⟨k1, _⟩ := hx1.at_ 1 _ rfl; obtain ⟨k2, _⟩ := hx1.at_ 2 _ rfl; have HX1 := Lib.hid hx1; have HL1 := Lib.hid hl1)
        | (go_at_call 24; refine (H24.out _).mono ?_; rintro e w2 ⟨rfl, hB2⟩; have HBw2 : Hid (Below w.heap.size w w2) := Lib.hid (HB0.out.trans ((hB1.trans (hB2.mono hB1.size)).mono (by have := HZ0.out; omega))); obtain ⟨m0', _⟩ := (HL1.out.call hB2).at_ 0 _ rfl; obtain ⟨m1', _⟩ := (HL1.out.call hB2).at_ 1 _ rfl; obtain ⟨k0', _⟩ := (HX1.out.call hB2).at_ 0 _ rfl; obtain ⟨k1', _⟩ := (HX1.out.call hB2).at_ 1 _ rfl; obtain ⟨k2', _⟩ := (HX1.out.call hB2).at_ 2 _ rfl)
        | (go_at_call 32; refine (H32u.out _ HBw2.out).mono ?_; rintro e w3 ⟨rfl, hB3⟩)
        | fail)
      refine bodyPost_ret (v := tup3 (on, oi, 0)) (by simp [results, Try.results11, go_sem, tup3]) rfl ⟨by rw [HR.out]; rfl, HBw2.out.trans (hB3.mono HBw2.out.size)⟩
end Go.Proofs.Ytijgfdncocjncaa
