/- The example: it is as the document says. -/
import Derived.Test.YtfebhofihioaoaaA12
import Derived.Test.YtfebhofihioaoaaS26
namespace Go.Proofs.Ytfebhofihioaoaa
set_option linter.unusedVariables false
set_option linter.unusedSimpArgs false
open Go Go.RowKit

set_option maxRecDepth 100000 in
set_option maxHeartbeats 1000000 in
theorem sample28 (w : World) : Calls Try.prog 28 #[] w fun e w' => ∃ b : Nat, e = .returned (.agg #[.slice (some ⟨b, 0, none⟩) 3 3, I 20, I 120]) ∧ Fours w' w'.heap.size (some ⟨b, 0, none⟩) x0.sp ∧ Below w.heap.size w w' := by
  have H45 : Hid (∀ (a b : Int) (W : World), Calls Try.prog 45 #[I a, I b] W fun e w' => e = .returned (.agg #[I a, I b]) ∧ Below W.heap.size W w') := Lib.hid span45
  have HW : Hid (Below w.heap.size w (w.alloc (.cells #[.slice none 0 0, I 0, I 0] 26))) := Lib.hid (below1 _ _)
  have HX : Hid (Box (w.alloc (.cells #[.slice none 0 0, I 0, I 0] 26)) w.heap.size [.slice none 0 0, I 0, I 0]) := Lib.hid (Box.new w _ 26)
  have hsz : (w.alloc (.cells #[.slice none 0 0, I 0, I 0] 26)).heap.size = w.heap.size + 1 := by simp
  have tok1 : True := trivial
  have tok2 : True := trivial
  have tok3 : True := trivial
  have tok4 : True := trivial
  go_enter Try.func28, Try.ntmps28
  go_wp2_with (first
    | (go_at_call 45; have _t := tok1; refine (H45.out _ _ _).mono ?_; rintro e w1 ⟨rfl, hB1⟩; clear tok1)
    | (go_at_call 45; have _t := tok2; refine (H45.out _ _ _).mono ?_; rintro e w2 ⟨rfl, hB2⟩; clear tok2)
    | (go_at_call 45; have _t := tok3; refine (H45.out _ _ _).mono ?_; rintro e w3 ⟨rfl, hB3⟩; have HF3 := Lib.hid (fours0 w3 48); have HX3 := Lib.hid (((HX.out.call hB1).call hB2).call hB3); have HB3 := Lib.hid (HW.out.trans (((hB1.trans (hB2.mono hB1.size)).trans (hB3.mono (by have := hB1.size; have := hB2.size; omega))).mono (by simp))); clear tok3)
    | (go_at_call 45; have _t := tok4; refine (H45.out _ _ _).mono ?_; rintro e w4 ⟨rfl, hB4⟩; have HX4 := Lib.hid ((HX3.out.alloc _).call hB4); have HF4 := Lib.hid ((HF3.out.more (show w3.heap.size + 1 ≤ _ by simp)).below hB4); have HB4 := Lib.hid ((HB3.out.alloc HB3.out.size _).trans (hB4.mono (by have := HB3.out.size; simp; omega))); have hz3 := HX3.out.1; obtain ⟨y0, z0⟩ := HX4.out.at_ 0 _ rfl; obtain ⟨y1, z1⟩ := HX4.out.at_ 1 _ rfl; obtain ⟨y2, z2⟩ := HX4.out.at_ 2 _ rfl; clear tok4)
    | fail)
  have hz4 := hB4.size
  have HS : Hid (Box (((w4.setCell ⟨w.heap.size, 0, none⟩ (.slice (some ⟨w3.heap.size, 0, none⟩) 3 3)).setCell ⟨w.heap.size, 1, none⟩ (I 20)).setCell ⟨w.heap.size, 2, none⟩ (I 120)) w.heap.size [.slice (some ⟨w3.heap.size, 0, none⟩) 3 3, I 20, I 120]) := Lib.hid (((HX4.out.set 0 _).set 1 _).set 2 _)
  obtain ⟨k0, _⟩ := HS.out.at_ 0 _ rfl
  obtain ⟨k1, _⟩ := HS.out.at_ 1 _ rfl
  obtain ⟨k2, _⟩ := HS.out.at_ 2 _ rfl
  refine bodyPost_ret (v := .agg #[.slice (some ⟨w3.heap.size, 0, none⟩) 3 3, I 20, I 120]) (by simp [results, Try.results28, go_sem, k0, k1, k2]) rfl ⟨w3.heap.size, rfl, ?_, ((HB4.out.setCell (Nat.le_refl _) _).setCell (Nat.le_refl _) _).setCell (Nat.le_refl _) _⟩
  have hk : ∀ p : Addr, p.block = w3.heap.size → (((w4.setCell ⟨w.heap.size, 0, none⟩ (.slice (some ⟨w3.heap.size, 0, none⟩) 3 3)).setCell ⟨w.heap.size, 1, none⟩ (I 20)).setCell ⟨w.heap.size, 2, none⟩ (I 120)).cell? p = w4.cell? p := fun p hp => by
    rw [World.cell?_setCell_other _ _ _ _ (by intro e; rw [← e] at hp; simp at hp; omega), World.cell?_setCell_other _ _ _ _ (by intro e; rw [← e] at hp; simp at hp; omega), World.cell?_setCell_other _ _ _ _ (by intro e; rw [← e] at hp; simp at hp; omega)]
  intro h0
  obtain ⟨b, off, h1, h2, h3⟩ := HF4.out h0
  have hb : b = w3.heap.size := by injection h1 with h1; injection h1 with h1 _ _; exact h1.symm
  refine ⟨b, off, h1, by have h9 : w3.heap.size + 1 ≤ w4.heap.size := (by have := hz4; simp at this; omega); simp; omega, fun k hk' => ?_⟩
  obtain ⟨e0, e1, e2, e3⟩ := h3 k hk'
  exact ⟨(hk _ hb).trans e0, (hk _ hb).trans e1, (hk _ hb).trans e2, (hk _ hb).trans e3⟩

theorem lit3 (W : World) (a b c : Int) (t : TypeId) : Ints (W.alloc (.cells #[I a, I b, I c] t)) (W.heap.size + 1) (some ⟨W.heap.size, 0, none⟩) [a, b, c] := ints_new [a, b, c] W t
theorem lit1I (W : World) (a b c : Int) : Ints (W.alloc (.cells #[I a, I b, I c] 3)) (W.alloc (.cells #[I a, I b, I c] 3)).heap.size (some ⟨W.heap.size, 0, none⟩) [a, b, c] := (lit3 W a b c 3).more (by simp)
theorem lit2I (W : World) (a b c u v z : Int) : Ints ((W.alloc (.cells #[I a, I b, I c] 3)).alloc (.cells #[I u, I v, I z] 3)) ((W.alloc (.cells #[I a, I b, I c] 3)).alloc (.cells #[I u, I v, I z] 3)).heap.size (some ⟨W.heap.size, 0, none⟩) [a, b, c] ∧
    Ints ((W.alloc (.cells #[I a, I b, I c] 3)).alloc (.cells #[I u, I v, I z] 3)) ((W.alloc (.cells #[I a, I b, I c] 3)).alloc (.cells #[I u, I v, I z] 3)).heap.size (some ⟨W.heap.size + 1, 0, none⟩) [u, v, z] := by
  refine ⟨((lit1I W a b c).below (below1 _ _)).more (by simp), ?_⟩
  have := lit1I (W.alloc (.cells #[I a, I b, I c] 3)) u v z
  simpa only [World.size_alloc] using this
theorem lit1B {V W : World} (h : Below V.heap.size V W) (a b c : Int) : Below V.heap.size V (W.alloc (.cells #[I a, I b, I c] 3)) := h.alloc h.size _
theorem lit2B {V W : World} (h : Below V.heap.size V W) (a b c u v z : Int) : Below V.heap.size V ((W.alloc (.cells #[I a, I b, I c] 3)).alloc (.cells #[I u, I v, I z] 3)) := (lit1B h a b c).alloc (lit1B h a b c).size _
theorem below_step {V W X : World} (h : Below V.heap.size V W) (k : Below W.heap.size W X) : Below V.heap.size V X := h.trans (k.mono h.size)
theorem exL (b : Nat) (w w1 : World) (hF : Fours w1 w1.heap.size (some ⟨b, 0, none⟩) x0.sp) (hB : Below w.heap.size w w1) : Hid (∀ W, Below (w1.alloc (.cells #[.slice (some ⟨b, 0, none⟩) 3 3, I 20, I 120] 26)).heap.size (w1.alloc (.cells #[.slice (some ⟨b, 0, none⟩) 3 3, I 20, I 120] 26)) W → Fours W W.heap.size (some ⟨b, 0, none⟩) x0.sp ∧ W.cell? ⟨w1.heap.size, 0, none⟩ = some (.slice (some ⟨b, 0, none⟩) 3 3) ∧ W.cell? ⟨w1.heap.size, 1, none⟩ = some (I 20) ∧ W.cell? ⟨w1.heap.size, 2, none⟩ = some (I 120) ∧ Below w.heap.size w W) := Lib.hid fun W hW => by
  have hb : Below w1.heap.size w1 W := (below1 w1 _).trans (hW.mono (by simp))
  have hx := (Box.new w1 [.slice (some ⟨b, 0, none⟩) 3 3, I 20, I 120] 26).call hW
  exact ⟨(hF.below hb).more hb.size, (hx.at_ 0 _ rfl).1, (hx.at_ 1 _ rfl).1, (hx.at_ 2 _ rfl).1, hB.trans (hb.mono hB.size)⟩
set_option maxRecDepth 100000 in
set_option maxHeartbeats 2000000 in
theorem awake10 (w : World) : Calls Try.prog 10 #[] w fun e w' => e = .returned (.bool true) ∧ Below w.heap.size w w' := by
  have H28 := Lib.hid (sample28 w)
  have H11 : Hid (∀ (b : Nat) (W : World), Fours W W.heap.size (some ⟨b, 0, none⟩) x0.sp → Calls Try.prog 11 #[.agg #[.slice (some ⟨b, 0, none⟩) 3 3, I 20, I 120], I 3] W fun e w' => e = .returned (.tuple #[I 5, I 0]) ∧ Below W.heap.size W w') := Lib.hid fun b W h => by
    have := need11 x0 (some ⟨b, 0, none⟩) 3 3 W h (by decide)
    rwa [needR0] at this
  have H13 : Hid (∀ (b g1 g2 : Nat) (p q r u v z : Int) (bb : Bool) (W : World), holdsR x0 [p, q, r] [u, v, z] = (bb, 0) → Fours W W.heap.size (some ⟨b, 0, none⟩) x0.sp → Ints W W.heap.size (some ⟨g1, 0, none⟩) [p, q, r] → Ints W W.heap.size (some ⟨g2, 0, none⟩) [u, v, z] → Calls Try.prog 13 #[.agg #[.slice (some ⟨b, 0, none⟩) 3 3, I 20, I 120], .slice (some ⟨g1, 0, none⟩) 3 3, .slice (some ⟨g2, 0, none⟩) 3 3] W fun e w' => e = .returned (.tuple #[.bool bb, I 0]) ∧ Below W.heap.size W w') := Lib.hid fun b g1 g2 p q r u v z bb W hr h h1 h2 => by
    have := holds13 x0 (some ⟨b, 0, none⟩) (some ⟨g1, 0, none⟩) (some ⟨g2, 0, none⟩) 3 3 3 [p, q, r] [u, v, z] W h h1 h2 (by decide) (by simp) (by simp)
    rwa [hr] at this
  have H15 : Hid (∀ (b g1 : Nat) (p q r s1 s2 s3 : Int) (W : World), lackR x0 [p, q, r] = (s1, s2, s3) → Fours W W.heap.size (some ⟨b, 0, none⟩) x0.sp → Ints W W.heap.size (some ⟨g1, 0, none⟩) [p, q, r] → Calls Try.prog 15 #[.agg #[.slice (some ⟨b, 0, none⟩) 3 3, I 20, I 120], .slice (some ⟨g1, 0, none⟩) 3 3] W fun e w' => e = .returned (.tuple #[I s1, I s2, I s3]) ∧ Below W.heap.size W w') := Lib.hid fun b g1 p q r s1 s2 s3 W hr h h1 => by
    have := lacking15 x0 (some ⟨b, 0, none⟩) (some ⟨g1, 0, none⟩) 3 3 [p, q, r] W h h1 (by decide) (by simp)
    rwa [hr] at this
  have H18 : Hid (∀ (b : Nat) (W : World), Fours W W.heap.size (some ⟨b, 0, none⟩) x0.sp → Calls Try.prog 18 #[.agg #[.slice (some ⟨b, 0, none⟩) 3 3, I 20, I 120]] W fun e w' => ∃ (B : Option Addr) (d : Nat), e = .returned (.tuple #[.slice B 3 d, I 0]) ∧ Ints w' w'.heap.size B [0, 5, 1] ∧ Below W.heap.size W w') := Lib.hid fun b W h => by
    have := fewest18 x0 (some ⟨b, 0, none⟩) 3 W h (by decide)
    rwa [fewR0] at this
  have H20 : Hid (∀ (A B : Option Addr) (c d : Nat) (W : World), Ints W W.heap.size A [0, 5, 1] → Ints W W.heap.size B [0, 5, 1] → Calls Try.prog 20 #[.slice A 3 c, .slice B 3 d] W fun e w' => e = .returned (.bool true) ∧ Below W.heap.size W w') := Lib.hid fun A B c d W h1 h2 => by
    have := ints20 A B c d [0, 5, 1] [0, 5, 1] W h1 h2 (by simp) (by simp)
    simpa using this
  have tok1 : True := trivial
  have tok2 : True := trivial
  have tok3 : True := trivial
  have tok4 : True := trivial
  have t5 : True := trivial
  go_enter Try.func10, Try.ntmps10
  go_wp2_with (first
    | (go_at_call 28; refine H28.out.mono ?_; rintro e w1 ⟨b, rfl, hF1, hB1⟩; have HL := exL b w w1 hF1 hB1)
    | (go_at_call 11; refine (H11.out b _ (HL.out _ (Below.refl _ _)).1).mono ?_; rintro e w2 ⟨rfl, hB2⟩; have hb2 := hB2; obtain ⟨_, n0, n1, n2, _⟩ := HL.out w2 hB2)
    | (go_at_call 13; have _t := tok1; refine (H13.out b _ _ 2 1 1 100 10 0 false _ holds0a (HL.out _ (lit2B hb2 2 1 1 100 10 0)).1 (lit2I w2 2 1 1 100 10 0).1 (lit2I w2 2 1 1 100 10 0).2).mono ?_; rintro e w3 ⟨rfl, hB3⟩; have hb3 := below_step (lit2B hb2 2 1 1 100 10 0) hB3; obtain ⟨_, o0, o1, o2, _⟩ := HL.out w3 hb3; clear tok1)
    | (go_at_call 13; have _t := tok2; refine (H13.out b _ _ 2 1 1 40 30 25 true _ holds0b (HL.out _ (lit2B hb3 2 1 1 40 30 25)).1 (lit2I w3 2 1 1 40 30 25).1 (lit2I w3 2 1 1 40 30 25).2).mono ?_; rintro e w4 ⟨rfl, hB4⟩; have hb4 := below_step (lit2B hb3 2 1 1 40 30 25) hB4; obtain ⟨_, p0, p1, p2, _⟩ := HL.out w4 hb4; clear tok2)
    | (go_at_call 15; have _t := tok3; refine (H15.out b _ 2 1 1 3 2 0 _ lackR0a (HL.out _ (lit1B hb4 2 1 1)).1 (lit1I w4 2 1 1)).mono ?_; rintro e w5 ⟨rfl, hB5⟩; have hb5 := below_step (lit1B hb4 2 1 1) hB5; obtain ⟨_, q0, q1, q2, _⟩ := HL.out w5 hb5; clear tok3)
    | (go_at_call 15; have _t := tok4; refine (H15.out b _ 3 2 1 0 0 4 _ lackR0b (HL.out _ (lit1B hb5 3 2 1)).1 (lit1I w5 3 2 1)).mono ?_; rintro e w6 ⟨rfl, hB6⟩; have hb6 := below_step (lit1B hb5 3 2 1) hB6; obtain ⟨_, r0, r1, r2, _⟩ := HL.out w6 hb6; clear tok4)
    | (go_at_call 18; refine (H18.out b _ (HL.out _ hb6).1).mono ?_; rintro e w7 ⟨B, d, rfl, hI7, hB7⟩; have hb7 := below_step hb6 hB7; have HI7 := Lib.hid hI7)
    | (go_at_call 20; refine (H20.out _ _ _ _ _ ((HI7.out.below (below1 _ _)).more (by simp)) (lit1I w7 0 5 1)).mono ?_; rintro e w8 ⟨rfl, hB8⟩; have hb8 := below_step (lit1B hb7 0 5 1) hB8)
    | fail)
  refine bodyPost_ret (v := .bool true) (by simp [results, Try.results10, go_sem]) rfl ⟨rfl, (HL.out _ hb8).2.2.2.2⟩
end Go.Proofs.Ytfebhofihioaoaa
