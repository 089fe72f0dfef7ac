/- The document's example: its spans, proofs and excess (plain). -/
import Derived.Test.YtgdilbilhajgaaaDoorR1
namespace Go.Proofs.YtgdilbilhajgaaaDoor
set_option linter.unusedVariables false
set_option linter.unusedSimpArgs false
open Go Go.RowKit

/-! Spans, reckoned. -/
def upLs (m : List (Int × Int)) (l : List (Int × Int × Int)) : Nat → List (Int × Int) → List (Int × Int)
  | 0, sl => sl
  | k + 1, sl => upLs m l k (sl.set k (andS (toldW l k) (ownW m (sF sl) k)))
def upsL (m : List (Int × Int)) (l : List (Int × Int × Int)) : List (Int × Int) := upLs m l m.length (List.replicate m.length (0, 0))
def dnLs (m : List (Int × Int)) (sl : List (Int × Int)) : List (Int × Int) := ((List.range m.length).drop 1).foldl (fun dl x => dl.set x (andS (sF sl x) (leftW m (sF sl) (sF dl) x))) sl
def spL (m : List (Int × Int)) (l : List (Int × Int × Int)) : List (Int × Int) := dnLs m (upsL m l)
def spB (m : List (Int × Int)) (l : List (Int × Int × Int)) : Bool :=
  decide (∀ i, i < m.length → sF (upsL m l) i = andS (toldW l i) (ownW m (sF (upsL m l)) i) ∧ (sF (upsL m l) i).1 ≤ (sF (upsL m l) i).2) &&
  decide (sF (spL m l) 0 = sF (upsL m l) 0) && decide (∀ x, x < m.length → 0 < x → sF (spL m l) x = andS (sF (upsL m l) x) (leftW m (sF (upsL m l)) (sF (spL m l)) x))
theorem isSpans_of {m : List (Int × Int)} {l : List (Int × Int × Int)} (hm : MOk m) (h : spB m l = true) : IsSpans m l (sF (spL m l)) := by
  unfold spB at h
  simp only [Bool.and_eq_true, decide_eq_true_eq] at h
  obtain ⟨⟨h1, h2⟩, h3⟩ := h
  exact isSpans hm (fun i hi => (h1 i hi).1) (fun i hi => (h1 i hi).2) ⟨h2, fun x h0 hx => h3 x hx h0⟩

/-! The example. -/
def m0 : List (Int × Int) := [(-1, 60), (0, 45), (0, 10), (1, 20), (1, 30), (2, 10)]
def l0 : List (Int × Int × Int) := [(0, 70, 74), (1, 48, 52), (3, 15, 25)]
def s0 : List (Int × Int) := [(70, 74), (48, 52), (18, 26), (15, 25), (23, 37), (18, 26)]
theorem m0_ok : MOk m0 := ⟨by decide, by decide, by decide, fun i h0 hi => by
  have h : ∀ i, i < m0.length → 0 < i → 0 ≤ parW m0 i ∧ parW m0 i ≤ (i : Int) - 1 := by decide +kernel
  exact h i hi h0, by decide +kernel⟩
theorem l0_ok : RdsOk m0.length l0 := by unfold RdsOk rdP l0; decide
theorem in0_ok : InOk m0 l0 := ⟨m0_ok, l0_ok⟩
theorem sp0 : IsSpans m0 l0 (sF s0) := by
  have h := isSpans_of m0_ok (l := l0) (by decide +kernel)
  rwa [show spL m0 l0 = s0 by decide +kernel] at h
/-- What the readings of a set tell. -/
theorem spBits : ∀ s, s < 8 → spB m0 (someL l0 (bitsL s)) = true := by decide +kernel
theorem sureBits (main : Nat) (hm : main < m0.length) (s : Nat) (hs : s < 8) : SureP m0 l0 main (bitsL s) ↔ limW m0 main < (sF (spL m0 (someL l0 (bitsL s))) main).1 :=
  (sure_spans (isSpans_of m0_ok (spBits s hs)) hm (limW m0 main)).symm
theorem isProof_bits {main : Nat} (hm : main < m0.length) {s : Nat} (hs : s < 8) (h1 : limW m0 main < (sF (spL m0 (someL l0 (bitsL s))) main).1)
    (h2 : ∀ t, t < 8 → limW m0 main < (sF (spL m0 (someL l0 (bitsL t))) main).1 → ¬ aheadL (bitsL t) (bitsL s)) : IsProof m0 l0 main (bitsL s) where
  sorted := bitsL_sorted s
  lt := fun k hk => bits_lt (N := 3) hs k hk
  sure := (sureBits main hm s hs).2 h1
  least := fun q hq hk hsq => by
    have h3 : ofBits q < 2 ^ 3 := ofBits_lt q hk
    have e := bits_of hq (fun k h => by have : k < 3 := hk k h; omega)
    rw [← e] at hsq ⊢
    exact h2 _ h3 ((sureBits main hm _ h3).1 hsq)
instance (q p : List Nat) : Decidable (aheadL q p) := by unfold aheadL; infer_instance
theorem proof0_5 : IsProof m0 l0 5 [0, 1] := isProof_bits (s := 3) (by decide) (by decide) (by decide +kernel) (by decide +kernel)
theorem proof0_1 : IsProof m0 l0 1 [1] := isProof_bits (s := 2) (by decide) (by decide) (by decide +kernel) (by decide +kernel)
theorem sure0_4 : ¬ SureP m0 l0 4 (List.range l0.length) := fun h => by
  have h2 := (sureBits 4 (by decide) 7 (by decide)).1 (by rwa [show bitsL 7 = List.range l0.length by decide +kernel])
  exact absurd h2 (by decide +kernel)
theorem sure0_5 : SureP m0 l0 5 (List.range l0.length) := by
  have h2 := (sureBits 5 (by decide) 7 (by decide)).2 (by decide +kernel)
  rwa [show bitsL 7 = List.range l0.length by decide +kernel] at h2
theorem sure0_1 : SureP m0 l0 1 (List.range l0.length) := by
  have h2 := (sureBits 1 (by decide) 7 (by decide)).2 (by decide +kernel)
  rwa [show bitsL 7 = List.range l0.length by decide +kernel] at h2
def x0 : Nat → Int := fun i => [70, 50, 20, 20, 30, 20].getD i 0
theorem x0_feas : Feas m0 l0 x0 := by
  have h : ∀ i, i < m0.length → ((toldW l0 i).1 ≤ x0 i ∧ x0 i ≤ (toldW l0 i).2) ∧ (kids m0 i = [] → 0 ≤ x0 i ∧ x0 i ≤ 100) ∧ (kids m0 i ≠ [] → x0 i = sumL x0 (kids m0 i)) := by decide +kernel
  exact h
theorem k00 : kids m0 0 = [1, 2] := by decide +kernel
theorem k01 : kids m0 1 = [3, 4] := by decide +kernel
theorem k02 : kids m0 2 = [5] := by decide +kernel
theorem k03 : kids m0 3 = [] := by decide +kernel
theorem k04 : kids m0 4 = [] := by decide +kernel
theorem k05 : kids m0 5 = [] := by decide +kernel
theorem total0 (x : Nat → Int) : totalW m0 x = max 0 (x 3 - 20) + (max 0 (x 4 - 30) + max 0 (x 5 - 10)) := by
  have e : List.range m0.length = [0, 1, 2, 3, 4, 5] := by decide
  unfold totalW
  rw [e]
  simp only [sumL, wellOver, k00, k01, k02, k03, k04, k05, if_true, if_false, List.cons_ne_nil, show limW m0 3 = 20 by decide, show limW m0 4 = 30 by decide, show limW m0 5 = 10 by decide]
  simp
theorem excess0 : IsExcess m0 l0 10 := by
  refine ⟨⟨x0, x0_feas, by rw [total0]; decide⟩, fun x hx => ?_⟩
  rw [total0]
  have h0 := hx 0 (by decide)
  have h1 := hx 1 (by decide)
  have h2 := hx 2 (by decide)
  have h3 := (hx 3 (by decide)).1
  have h4 := (hx 4 (by decide)).1
  have a0 := h0.2.2 (by rw [k00]; simp)
  have a1 := h1.2.2 (by rw [k01]; simp)
  have a2 := h2.2.2 (by rw [k02]; simp)
  rw [k00] at a0
  rw [k01] at a1
  rw [k02] at a2
  simp only [sumL] at a0 a1 a2
  have t0 := h0.1
  have t1 := h1.1
  rw [show toldW l0 0 = (70, 74) by decide +kernel] at t0
  rw [show toldW l0 1 = (48, 52) by decide +kernel] at t1
  simp only at t0 t1
  omega
end Go.Proofs.YtgdilbilhajgaaaDoor
/- The statements' own helpers: great, the example, and that all is right on it. -/
namespace Go.Proofs.YtgdilbilhajgaaaDoor
set_option linter.unusedVariables false
set_option linter.unusedSimpArgs false
open Go Go.RowKit

theorem pairs_ownN {W : World} {base n : Nat} {v : Value} {sl : List (Int × Int)} {e : TypeId} (h : W.ownsRow base e 2 v n (flat2 sl)) (hn : sl.length = n) :
    ∃ A c, v = .slice A sl.length c ∧ Pairs W W.heap.size A sl := by
  rcases h.2 with ⟨h1, h2⟩ | ⟨g, cap, cur, rfl, _⟩
  · exact ⟨none, 0, by rw [h1, hn, h2], fun h => by omega⟩
  · subst hn
    refine ⟨_, _, rfl, fun _ => ⟨g, 0, rfl, (h.lt g rfl).2, fun k hk => ?_⟩⟩
    obtain ⟨a, b⟩ := flat2_get sl k hk
    have c1 := h.cells (g := g) rfl (k * 2) _ a
    have c2 := h.cells (g := g) rfl (k * 2 + 1) _ b
    rw [Addr.add_lit] at c1 c2
    exact ⟨c1, c2⟩
theorem ints_ownN {W : World} {base n : Nat} {v : Value} {xs : List Int} {e : TypeId} (h : W.ownsRow base e 1 v n (xs.map I)) (hn : xs.length = n) :
    ∃ A c, v = .slice A xs.length c ∧ Ints W W.heap.size A xs := by
  rcases h.2 with ⟨h1, h2⟩ | ⟨g, cap, cur, rfl, _⟩
  · exact ⟨none, 0, by rw [h1, hn, h2], fun h => by omega⟩
  · subst hn
    exact ⟨_, _, rfl, ints_of_own h rfl⟩
theorem pairs_new (sl : List (Int × Int)) (W : World) (t : TypeId) : Pairs (W.alloc (.cells (flat2 sl).toArray t)) (W.heap.size + 1) (some ⟨W.heap.size, 0, none⟩) sl := fun _ => by
  refine ⟨_, 0, rfl, by omega, fun k hk => ?_⟩
  obtain ⟨a, b⟩ := flat2_get sl k hk
  constructor
  · simp [go_sem, a]
  · simp [go_sem, b, Nat.add_assoc]
theorem ints_new (xs : List Int) (W : World) (t : TypeId) : Ints (W.alloc (.cells (xs.map I).toArray t)) (W.heap.size + 1) (some ⟨W.heap.size, 0, none⟩) xs := fun _ => by
  refine ⟨_, 0, rfl, by omega, fun k hk => ?_⟩
  simp [go_sem, hk]

def greatB (n k : Nat) (most : Int) : Bool := (decide (most < (n : Int)) && decide ((n : Int) ≤ 16)) || decide ((24 : Int) < n) || decide ((20 : Int) < k)
set_option maxRecDepth 100000 in
theorem great11 (A B : Option Addr) (n c k d : Nat) (most : Int) (w : World) :
    Calls Tryd.prog 11 #[.slice A n c, .slice B k d, I most] w fun e w' => e = .returned (.bool (greatB n k most)) ∧ w = w' := by
  unfold greatB
  cases h1 : decide (most < (n : Int)) <;> cases h2 : decide ((n : Int) ≤ 16) <;> cases h3 : decide ((24 : Int) < n) <;> cases h4 : decide ((20 : Int) < k)
  all_goals
    go_enter Tryd.func11, Tryd.ntmps11
    go_wp2
    go_ret
    exact ⟨rfl, rfl⟩
theorem span21 (a b : Int) (w : World) :
    Calls Tryd.prog 21 #[I a, I b] w fun e w' => e = .returned (.agg #[I a, I b]) ∧ w' = w.alloc (.cells #[I a, I b] 39) := by
  go_enter Tryd.func21, Tryd.ntmps21
  go_wp2
  exact bodyPost_ret (v := .agg #[I a, I b]) (by simp [results, Tryd.results21, go_sem]) rfl ⟨rfl, rfl⟩
set_option maxRecDepth 100000 in
theorem sample26 (w : World) :
    Calls Tryd.prog 26 #[] w fun e w' => ∃ A B c d, e = .returned (.tuple #[.slice A m0.length c, .slice B l0.length d]) ∧ Pairs w' w'.heap.size A m0 ∧ Threes w' w'.heap.size B l0 ∧ Below w.heap.size w w' := by
  go_enter Tryd.func26, Tryd.ntmps26
  go_wp2_with (first
    | (go_at_call 21; refine (span21 _ _ _).mono ?_; rintro e w1 ⟨rfl, rfl⟩)
    | fail)
  go_ret2
  refine ⟨_, _, _, _, rfl, fun _ => ⟨_, 0, rfl, ?_, fun k hk => ?_⟩, fun _ => ⟨_, 0, rfl, ?_, fun k hk => ?_⟩, by (repeat' (first | assumption | exact Below.refl _ _ | refine Below.drew ?_ | refine below_drewN ?_ _ | refine Below.setCell ?_ (by first | omega | (simp; done) | (simp; omega)) _ | refine Below.alloc ?_ (by first | omega | (simp; done) | (simp; omega)) _ | refine Below.trans ?_ (Below.mono (by assumption) (by first | omega | (simp; done) | (simp; omega)))))⟩
  · simp; try omega
  · match k, hk with
    | 0, _ => constructor <;> (simp [go_sem, m0]; done)
    | 1, _ => constructor <;> (simp [go_sem, m0]; done)
    | 2, _ => constructor <;> (simp [go_sem, m0]; done)
    | 3, _ => constructor <;> (simp [go_sem, m0]; done)
    | 4, _ => constructor <;> (simp [go_sem, m0]; done)
    | 5, _ => constructor <;> (simp [go_sem, m0]; done)
  · simp; try omega
  · match k, hk with
    | 0, _ => refine ⟨?_, ?_, ?_⟩ <;> (simp [go_sem, l0]; done)
    | 1, _ => refine ⟨?_, ?_, ?_⟩ <;> (simp [go_sem, l0]; done)
    | 2, _ => refine ⟨?_, ?_, ?_⟩ <;> (simp [go_sem, l0]; done)

/-! What is answered on the example. -/
theorem list_eq_sF {a b : List (Int × Int)} (hl : a.length = b.length) (h : ∀ i, i < a.length → sF a i = sF b i) : a = b := by
  refine List.ext_getElem hl fun i h1 h2 => ?_
  have := h i h1
  simpa [sF, List.getD, h1, h2] using this
theorem flows0 (A B : Option Addr) (c d : Nat) (w : World) (hm : Pairs w w.heap.size A m0) (hl : Threes w w.heap.size B l0) :
    Calls Tryd.prog 18 #[.slice A m0.length c, .slice B l0.length d] w fun e w' => ∃ A2 c2, e = .returned (.tuple #[.slice A2 s0.length c2, I 0]) ∧ Pairs w' w'.heap.size A2 s0 ∧ Below w.heap.size w w' := by
  refine (flows18 A B c d m0 l0 w hm (by decide) hl (by decide)).mono ?_
  rintro e w' ⟨hB, ⟨h, _⟩ | ⟨_, h, _⟩ | ⟨_, v, sl, rfl, ho, hsl, hsp⟩⟩
  · exact absurd in0_ok h
  · exact absurd ⟨x0, x0_feas⟩ h
  · obtain rfl : sl = s0 := list_eq_sF (hsl.trans rfl) fun i hi => hsp.eq sp0 (by omega)
    obtain ⟨A2, c2, rfl, hp⟩ := pairs_ownN ho rfl
    exact ⟨A2, c2, rfl, hp, hB⟩
theorem proof0 (A B : Option Addr) (c d : Nat) (w : World) (hm : Pairs w w.heap.size A m0) (hl : Threes w w.heap.size B l0) (hT : TabOk w) (main : Nat) (hmain : main < m0.length) (q : List Nat) (hq : IsProof m0 l0 main q) (hs : SureP m0 l0 main (List.range l0.length)) :
    Calls Tryd.prog 13 #[.slice A m0.length c, .slice B l0.length d, I main] w fun e w' => ∃ A2 c2, e = .returned (.tuple #[.slice A2 q.length c2, I 0]) ∧ Ints w' w'.heap.size A2 (q.map fun k : Nat => (k : Int)) ∧ Below w.heap.size w w' := by
  refine (proof13 A B c d main m0 l0 w hm (by decide) hl (by decide) hT).mono ?_
  have hin : inB (main : Int) 0 ((m0.length : Int) - 1) = true := inB_true.2 ⟨by omega, by omega⟩
  rintro e w' ⟨hB, ⟨h, _⟩ | ⟨_, h, _⟩ | ⟨_, _, h, _⟩ | ⟨_, _, _, h, _⟩ | ⟨_, _, _, v, p, rfl, ho, hp⟩⟩
  · exact absurd in0_ok h
  · rw [hin] at h; cases h
  · exact absurd ⟨x0, x0_feas⟩ h
  · exact absurd hs h
  · obtain rfl : p = q := hp.eq hq
    have e1 : (p.map fun k : Nat => I (k : Int)) = (p.map fun k : Nat => (k : Int)).map I := by simp
    rw [e1] at ho
    obtain ⟨A2, c2, rfl, hi⟩ := ints_ownN ho (by simp)
    exact ⟨A2, c2, by simp, hi, hB⟩
theorem excess0v (A B : Option Addr) (c d : Nat) (w : World) (hm : Pairs w w.heap.size A m0) (hl : Threes w w.heap.size B l0) :
    Calls Tryd.prog 15 #[.slice A m0.length c, .slice B l0.length d] w fun e w' => e = .returned (.tuple #[I 10, I 0]) ∧ Below w.heap.size w w' := by
  refine (excess15 A B c d m0 l0 w hm (by decide) hl (by decide)).mono ?_
  rintro e w' ⟨hB, ⟨h, _⟩ | ⟨_, h, _⟩ | ⟨_, v, hv, rfl⟩⟩
  · exact absurd in0_ok h
  · exact absurd ⟨x0, x0_feas⟩ h
  · obtain rfl : v = 10 := hv.eq excess0
    exact ⟨rfl, hB⟩

theorem spans_lit (A2 : Option Addr) (c2 g : Nat) (W0 : World) (hg : g = W0.heap.size) (hs : Pairs W0 W0.heap.size A2 s0) :
    Calls Tryd.prog 25 #[.slice A2 s0.length c2, .slice (some ⟨g, 0, none⟩) 6 6] (W0.alloc (.cells #[I 70, I 74, I 48, I 52, I 18, I 26, I 15, I 25, I 23, I 37, I 18, I 26] 39)) fun e w' => e = .returned (.bool true) ∧ Below W0.heap.size W0 w' := by
  subst hg
  have hb : Below W0.heap.size W0 (W0.alloc (.cells #[I 70, I 74, I 48, I 52, I 18, I 26, I 15, I 25, I 23, I 37, I 18, I 26] 39)) := (Below.refl _ _).alloc (Nat.le_refl _) _
  have h1 : Pairs (W0.alloc (.cells #[I 70, I 74, I 48, I 52, I 18, I 26, I 15, I 25, I 23, I 37, I 18, I 26] 39)) (W0.heap.size + 1) (some ⟨W0.heap.size, 0, none⟩) s0 := pairs_new s0 W0 39
  rw [← World.size_alloc W0 (.cells #[I 70, I 74, I 48, I 52, I 18, I 26, I 15, I 25, I 23, I 37, I 18, I 26] 39)] at h1
  refine (spans25 A2 (some ⟨W0.heap.size, 0, none⟩) c2 6 s0 s0 _ ((hs.below hb).more hb.size) h1 (by decide) (by decide)).mono ?_
  rintro e w' ⟨rfl, hB⟩
  exact ⟨by simp, hb.trans (hB.mono hb.size)⟩
theorem ints_lit (A2 : Option Addr) (c2 g : Nat) (W0 : World) (hg : g = W0.heap.size) (hs : Ints W0 W0.heap.size A2 [0, 1]) :
    Calls Tryd.prog 17 #[.slice A2 2 c2, .slice (some ⟨g, 0, none⟩) 2 2] (W0.alloc (.cells #[I 0, I 1] 3)) fun e w' => e = .returned (.bool true) ∧ Below W0.heap.size W0 w' := by
  subst hg
  have hb : Below W0.heap.size W0 (W0.alloc (.cells #[I 0, I 1] 3)) := (Below.refl _ _).alloc (Nat.le_refl _) _
  have h1 : Ints (W0.alloc (.cells #[I 0, I 1] 3)) (W0.heap.size + 1) (some ⟨W0.heap.size, 0, none⟩) [0, 1] := ints_new [0, 1] W0 3
  rw [← World.size_alloc W0 (.cells #[I 0, I 1] 3)] at h1
  refine (ints17 A2 (some ⟨W0.heap.size, 0, none⟩) c2 2 [0, 1] [0, 1] _ ((hs.below hb).more hb.size) h1 (by decide) (by decide)).mono ?_
  rintro e w' ⟨rfl, hB⟩
  exact ⟨by simp, hb.trans (hB.mono hb.size)⟩

set_option maxRecDepth 100000 in
set_option maxHeartbeats 4000000 in
theorem alive12 (w : World) (hT : TabOk w) : Calls Tryd.prog 12 #[] w fun e w' => e = .returned (.bool true) ∧ Below w.heap.size w w' := by
  have HT := Lib.hid hT
  clear hT
  go_enter Tryd.func12, Tryd.ntmps12
  go_wp2_with (first
    | (go_at_call 26; refine (sample26 _).mono ?_; rintro e w1 ⟨A, B, c, d, rfl, hm, hl, hB1⟩; have HM := Lib.hid hm; have HL := Lib.hid hl; clear hm hl)
    | (go_at_call 18; refine (flows0 _ _ _ _ _ HM.out HL.out).mono ?_; rintro e w2 ⟨A2, c2, rfl, hs, hB2⟩; have HS := Lib.hid hs; have hB12 := hB1.trans (hB2.mono hB1.size); have HM2 := Lib.hid ((HM.out.below hB2).more hB2.size); have HL2 := Lib.hid ((HL.out.below hB2).more hB2.size); clear hs)
    | (go_at_call 13; refine (proof0 _ _ _ _ _ HM2.out HL2.out (HT.out.below hB12) 5 (by decide) [0, 1] proof0_5 sure0_5).mono ?_; rintro e w3 ⟨A3, c3, rfl, hp, hB3⟩; have HP := Lib.hid hp; have hB13 := hB12.trans (hB3.mono hB12.size); have HM3 := Lib.hid ((HM2.out.below hB3).more hB3.size); have HL3 := Lib.hid ((HL2.out.below hB3).more hB3.size); have HS3 := Lib.hid ((HS.out.below hB3).more hB3.size); clear hp)
    | (go_at_call 15; refine (excess0v _ _ _ _ _ HM3.out HL3.out).mono ?_; rintro e w4 ⟨rfl, hB4⟩; have hB14 := hB13.trans (hB4.mono hB13.size); have HP4 := Lib.hid ((HP.out.below hB4).more hB4.size); have HS4 := Lib.hid ((HS3.out.below hB4).more hB4.size))
    | (go_at_call 21; refine (span21 _ _ _).mono ?_; rintro e w1 ⟨rfl, rfl⟩)
    | (go_at_call 25; refine (spans_lit _ _ _ _ (by simp) ((HS4.out.below (by (repeat' (first | assumption | exact Below.refl _ _ | refine Below.drew ?_ | refine below_drewN ?_ _ | refine Below.setCell ?_ (by first | omega | (simp; done) | (simp; omega)) _ | refine Below.alloc ?_ (by first | omega | (simp; done) | (simp; omega)) _ | refine Below.trans ?_ (Below.mono (by assumption) (by first | omega | (simp; done) | (simp; omega))))))).more (by simp; try omega))).mono ?_; rintro e w5 ⟨rfl, hB5⟩; have hB45 : Below w4.heap.size w4 w5 := below_call (by (repeat' (first | assumption | exact Below.refl _ _ | refine Below.drew ?_ | refine below_drewN ?_ _ | refine Below.setCell ?_ (by first | omega | (simp; done) | (simp; omega)) _ | refine Below.alloc ?_ (by first | omega | (simp; done) | (simp; omega)) _ | refine Below.trans ?_ (Below.mono (by assumption) (by first | omega | (simp; done) | (simp; omega)))))) hB5; have HP5 := Lib.hid ((HP4.out.below hB45).more hB45.size))
    | (go_at_call 17; refine (ints_lit _ _ _ _ (by simp) (by simpa using HP5.out)).mono ?_; rintro e w6 ⟨rfl, hB6⟩; have hB46 : Below w4.heap.size w4 w6 := hB45.trans (hB6.mono hB45.size))
    | fail)
  go_ret
  exact ⟨rfl, hB14.trans (hB46.mono hB14.size)⟩
end Go.Proofs.YtgdilbilhajgaaaDoor
