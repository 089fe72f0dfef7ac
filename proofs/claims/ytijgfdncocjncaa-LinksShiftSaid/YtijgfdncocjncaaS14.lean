/- Holds, of the program. -/
import Derived.Test.YtijgfdncocjncaaS13
namespace Go.Proofs.Ytijgfdncocjncaa
set_option linter.unusedVariables false
set_option linter.unusedSimpArgs false
open Go Go.RowKit

def tup3 (r : Bool × Int × Int) : Value := .tuple #[.bool r.1, I r.2.1, I r.2.2]
theorem inB_nat {f : Int} {n : Nat} (h : inB f 0 ((n : Int) - 1) = true) : ∃ k : Nat, f = (k : Int) ∧ k < n := by
  unfold inB at h
  simp only [Bool.and_eq_true, decide_eq_true_iff] at h
  exact ⟨f.toNat, by omega, by omega⟩
set_option maxRecDepth 100000 in
set_option maxHeartbeats 4000000 in
theorem holds10 (x : Wat) (A B : Option Addr) (c d : Nat) (f t : Int) (w : World) (h64 : Wat64 x) (hW : WatAt w x A B) :
    Calls Try.prog 10 #[x.val A c B d, .agg #[I f, I t]] w fun e w' => e = .returned (tup3 (hldR x f t)) ∧ Below w.heap.size w w' := by
  have H28 := Lib.hid fun (W : World) (hB : Below w.heap.size w W) => isWatch28 x A B c d W (hW.below hB) h64
  have H29 : Hid (∀ (n lo hi : Int) (W : World), Calls Try.prog 29 #[I n, I lo, I hi] W fun e w' => e = .returned (.bool (inB n lo hi)) ∧ W = w') := Lib.hid within29
  have hlen := h64.hlen
  have HB0 : Hid (Below w.heap.size w ((w.alloc (.cells #[.slice A x.hb.length c, .slice B x.er.length d, I x.en] 25)).alloc (.cells #[I f, I t] 27))) := Lib.hid (by (repeat' (first | assumption | exact Below.refl _ _ | refine Below.drew ?_ | refine below_drewN ?_ _ | refine Below.setCell ?_ (by first | omega | (simp; done) | (simp; omega)) _ | refine Below.alloc ?_ (by first | omega | (simp; done) | (simp; omega)) _ | refine Below.trans ?_ (Below.mono (by assumption) (by first | omega | (simp; done) | (simp; omega))))))
  cases hwb : watB x
  · have HR : Hid (hldR x f t = (false, 0, 1)) := Lib.hid (by unfold hldR; rw [hwb]; rfl)
    rw [hwb] at H28
    go_enter Try.func10, Try.ntmps10
    unfold Wat.val at H28 ⊢
    go_wp2_with (first | (go_at_call 28; refine (H28.out _ HB0.out).mono ?_; rintro e w1 ⟨rfl, hB1⟩) | fail)
    refine bodyPost_ret (v := tup3 (false, 0, 1)) (by simp [results, Try.results10, go_sem, tup3]) rfl ⟨by rw [HR.out], HB0.out.trans (hB1.mono (by simp; omega))⟩
  · have hx := watB_iff.1 hwb
    have HX := Lib.hid hx
    have hn6 : x.hb.length ≤ 6 := hx.n6
    have HRD : Hid (hldR x f t = if inB f 0 ((x.hb.length : Int) - 1) && inB t 0 ((x.hb.length : Int) - 1) && !(f == t) then ((ref x f.toNat t.toNat).isNone, optI (ref x f.toNat t.toNat), 0) else (false, 0, 2)) := Lib.hid (by unfold hldR; rw [hwb]; rfl)
    have H30 : Hid (∀ W, Below w.heap.size w W → Calls Try.prog 30 #[x.val A c B d] W fun e w' => ∃ (D : Option Addr) (cs : Nat), e = .returned (.pointer (some ⟨W.heap.size + 1, 0, none⟩)) ∧ Run w' (W.heap.size + 1) x A B c d D cs ∧ Below W.heap.size W w') := Lib.hid fun W h => newWatch30 x A B c d W hx (hW.below h)
    have H31 : Hid (∀ (fn tn P : Nat) (D : Option Addr) (cs : Nat) (W : World), fn < x.hb.length → tn < x.hb.length → Run W P x A B c d D cs → Calls Try.prog 31 #[.pointer (some ⟨P, 0, none⟩), .agg #[I fn, I tn]] W fun e w' => e = .returned (.tuple #[U64 (setN (expP x fn tn)), I (optI (ref x fn tn))]) ∧ Below W.heap.size W w') := Lib.hid fun fn tn P D cs W h1 h2 hR => explained31 x P fn tn A B c d D cs W hx hR h1 h2
    have HNF := Lib.hid fun (f : Int) => @inB_nat f x.hb.length
    rw [hwb] at H28
    clear hx hW h64
    unfold Wat.val at H28 H30 ⊢
    have hwn : IntKind.i64.wrap ((x.hb.length : Int) - 1) = (x.hb.length : Int) - 1 := IntWalk.i64_in _ (by omega)
    obtain ⟨b1, hb1⟩ : ∃ b, inB f 0 ((x.hb.length : Int) - 1) = b := ⟨_, rfl⟩
    obtain ⟨b2, hb2⟩ : ∃ b, inB t 0 ((x.hb.length : Int) - 1) = b := ⟨_, rfl⟩
    obtain ⟨b3, hb3⟩ : ∃ b, (f == t) = b := ⟨_, rfl⟩
    rw [hb1, hb2, hb3] at HRD
    have HB1 := Lib.hid hb1
    have HB2 := Lib.hid hb2
    by_cases hall : (b1 && b2 && !b3) = true
    · obtain ⟨rfl, rfl, rfl⟩ : b1 = true ∧ b2 = true ∧ b3 = false := by revert hall; cases b1 <;> cases b2 <;> cases b3 <;> simp
      obtain ⟨fn, rfl, hfn⟩ := HNF.out f HB1.out
      obtain ⟨tn, rfl, htn⟩ := HNF.out t HB2.out
      simp only [Bool.not_false, Bool.and_self, if_true, Int.toNat_natCast] at HRD
      have H31n := Lib.hid fun P D cs W => H31.out fn tn P D cs W hfn htn
      obtain ⟨ro, hro⟩ : ∃ ro, ref x fn tn = ro := ⟨_, rfl⟩
      rw [hro] at HRD H31n
      clear hro hall HB1 HB2 H31
      have hoi : decide (optI ro < 0) = ro.isNone := by
        cases ro with
        | none => rfl
        | some a => exact decide_eq_false (show ¬ ((a : Nat) : Int) < 0 by omega)
      generalize optI ro = oi at *
      generalize ro.isNone = on at *
      generalize setN (expP x fn tn) = se at *
      have HB0b : Hid (Box ((w.alloc (.cells #[.slice A x.hb.length c, .slice B x.er.length d, I x.en] 25)).alloc (.cells #[I fn, I tn] 27)) (w.heap.size + 1) [I fn, I tn]) := Lib.hid (by have := Box.new (w.alloc (.cells #[.slice A x.hb.length c, .slice B x.er.length d, I x.en] 25)) [I fn, I tn] 27; simpa only [World.size_alloc] using this)
      have HB0a : Hid (Box ((w.alloc (.cells #[.slice A x.hb.length c, .slice B x.er.length d, I x.en] 25)).alloc (.cells #[I fn, I tn] 27)) w.heap.size [.slice A x.hb.length c, .slice B x.er.length d, I x.en]) := Lib.hid ((Box.new w [.slice A x.hb.length c, .slice B x.er.length d, I x.en] 25).alloc _)
      have HZ0 : Hid (w.heap.size + 2 = ((w.alloc (.cells #[.slice A x.hb.length c, .slice B x.er.length d, I x.en] 25)).alloc (.cells #[I fn, I tn] 27)).heap.size) := Lib.hid (by simp)
      go_enter Try.func10, Try.ntmps10
      go_wp2_with (first
        | (go_at_call 28; generalize (w.alloc (.cells #[.slice A x.hb.length c, .slice B x.er.length d, I x.en] 25)).alloc (.cells #[I fn, I tn] 27) = wa at *; refine (H28.out _ HB0.out).mono ?_; rintro e w1 ⟨rfl, hB1⟩; have HBa1 := HB0a.out.call hB1; have HBb1 := HB0b.out.call hB1; obtain ⟨m0, _⟩ := HBb1.at_ 0 _ rfl; obtain ⟨m1, _⟩ := HBb1.at_ 1 _ rfl; obtain ⟨k0, _⟩ := HBa1.at_ 0 _ rfl; obtain ⟨k1, _⟩ := HBa1.at_ 1 _ rfl; obtain ⟨k2, _⟩ := HBa1.at_ 2 _ rfl)
        | (go_at_call 29; refine (H29.out _ _ _ _).mono ?_; rintro e w2 ⟨rfl, rfl⟩)
        | fail)
      have HBa : Hid (Below w.heap.size w w1) := Lib.hid (HB0.out.trans (hB1.mono (by have := HZ0.out; omega)))
      have hz1 := hB1.size
      have hzz := HZ0.out
      refine (wpIn_wide (n := 9)).1 ?_
      refine wpIn_region_plan (Plan.ons [0, 2, 1, 3, 4, 5, 6, 7, 8] .fin) [2] (fun W' => W'.cell? ⟨w.heap.size + 1, 0, none⟩ = some (I fn) ∧ W'.cell? ⟨w.heap.size + 1, 1, none⟩ = some (I tn)) [3] rfl (by kernel_rfl) (by kernel_rfl) (fun _ d _ _ _ h => by cases d <;> exact h) ⟨m0, m1⟩ ?_
      (refine ordQ_li rfl rfl rfl (fun K hK => ?_); go_simp; refine hK _ ?_; clear hK K)
      (refine ordQ_held (.agg #[I fn, I tn]) rfl rfl rfl rfl (fun W' hC' => ?_) (fun K hK => ?_); (focus (obtain ⟨g0, g1⟩ := hC'; go_simp; try exact ⟨rfl, rfl⟩)); go_simp; refine hK _ ?_; clear hK K)
      refine ordQ_hv rfl rfl rfl (fun K hK => ?_)
      gi_wp2_with (first | (refine And.intro trivial ?_; gi_at_call 30; refine (callsIn_wide.2 (H30.out _ HBa.out.drew)).mono ?_; rintro e w6 ⟨D, cs, rfl, hR, hB6⟩) | fail)
      have hB6' : Below w1.heap.size w1 w6 := (Below.refl _ w1).drew.trans hB6
      refine hK _ _ (fun _ => ⟨(hB6'.cell (p := ⟨w.heap.size + 1, 0, none⟩) (show w.heap.size + 1 < _ by omega)).trans m0, (hB6'.cell (p := ⟨w.heap.size + 1, 1, none⟩) (show w.heap.size + 1 < _ by omega)).trans m1⟩) ?_
      clear hK K
      have HRW := Lib.hid hR
      refine ordQ_hv rfl rfl rfl (fun K hK => ?_)
      gi_wp2_with (first | (refine And.intro trivial ?_; gi_at_call 31; refine (callsIn_wide.2 (H31n.out _ _ _ _ HRW.out)).mono ?_; rintro e w7 ⟨rfl, hB7⟩) | fail)
      refine hK _ _ (fun h => by cases h) ?_
      clear hK K
      have HBF : Hid (Below w.heap.size w w7) := Lib.hid ((HBa.out.trans (hB6'.mono (by omega))).trans (hB7.mono (by have := hB6'.size; omega)))
      clear m0 m1 k0 k1 k2 hB6 hB6' hB7 hR HRW
      iterate 5 (refine ordQ_li rfl rfl rfl (fun K hK => ?_); go_simp; refine hK _ ?_; clear hK K)
      refine ordQ_fin ?_
      go_wp2_with (fail)
      refine bodyPost_ret (v := tup3 (on, oi, 0)) (by simp [results, Try.results10, go_sem, tup3]) rfl ⟨by rw [HRD.out], HBF.out⟩
    · have HR : Hid (hldR x f t = (false, 0, 2)) := Lib.hid (by rw [HRD.out, if_neg hall])
      clear H30 H31 HRD HNF
      have HZ0 : Hid (w.heap.size + 2 = ((w.alloc (.cells #[.slice A x.hb.length c, .slice B x.er.length d, I x.en] 25)).alloc (.cells #[I f, I t] 27)).heap.size) := Lib.hid (by simp)
      have HB0b : Hid (Box ((w.alloc (.cells #[.slice A x.hb.length c, .slice B x.er.length d, I x.en] 25)).alloc (.cells #[I f, I t] 27)) (w.heap.size + 1) [I f, I t]) := Lib.hid (by have := Box.new (w.alloc (.cells #[.slice A x.hb.length c, .slice B x.er.length d, I x.en] 25)) [I f, I t] 27; simpa only [World.size_alloc] using this)
      cases b1 <;> cases b2 <;> cases b3
      all_goals first
        | (exfalso; simp at hall; done)
        | (go_enter Try.func10, Try.ntmps10
           go_wp2_with (first
             | (go_at_call 28; generalize (w.alloc (.cells #[.slice A x.hb.length c, .slice B x.er.length d, I x.en] 25)).alloc (.cells #[I f, I t] 27) = wa at *; refine (H28.out _ HB0.out).mono ?_; rintro e w1 ⟨rfl, hB1⟩; have HBb1 := HB0b.out.call hB1; obtain ⟨m0, _⟩ := HBb1.at_ 0 _ rfl; obtain ⟨m1, _⟩ := HBb1.at_ 1 _ rfl)
             | (go_at_call 29; refine (H29.out _ _ _ _).mono ?_; rintro e w2 ⟨rfl, rfl⟩)
             | fail)
           refine bodyPost_ret (v := tup3 (false, 0, 2)) (by simp [results, Try.results10, go_sem, tup3]) rfl ⟨by rw [HR.out], HB0.out.trans (hB1.mono (by have := HZ0.out; omega))⟩)
end Go.Proofs.Ytijgfdncocjncaa
