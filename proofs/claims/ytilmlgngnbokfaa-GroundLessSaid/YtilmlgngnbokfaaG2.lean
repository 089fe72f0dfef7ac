/- The example's ground, sounding and deck. -/
import Derived.Test.YtilmlgngnbokfaaMo
import Derived.Test.YtilmlgngnbokfaaPg
namespace Go.Proofs.Ytilmlgngnbokfaa
set_option linter.unusedVariables false
set_option linter.unusedSimpArgs false
open Go.RowKit

theorem span34 (a b : Int) (w : World) :
    Calls Try.prog 34 #[I a, I b] w fun e w' => e = .returned (.agg #[I a, I b]) ∧ w' = w.alloc (.cells #[I a, I b] 53) := by
  go_enter Try.func34, Try.ntmps34
  go_wp2
  exact bodyPost_ret (v := .agg #[I a, I b]) (by simp [results, Try.results34, go_sem]) rfl ⟨rfl, rfl⟩

/-- The row of values us lies at block g. -/
def RowAt (W : World) (B0 g : Nat) (us : List Value) : Prop := B0 ≤ g ∧ g < W.heap.size ∧ ∀ k (h : k < us.length), W.cell? ⟨g, k, none⟩ = some us[k]
theorem RowAt.frm {W W' : World} {B0 g : Nat} {us : List Value} {S : Nat → Prop} (h : RowAt W B0 g us) (hF : Frm W.heap.size S W W') (hS : ¬ S g) : RowAt W' B0 g us :=
  ⟨h.1, Nat.lt_of_lt_of_le h.2.1 hF.size, fun k hk => (hF.cell h.2.1 hS).trans (h.2.2 k hk)⟩

section
variable (b B0 : Nat)
def sV : Nat → Value → World → Prop
  | 0, v, _ => v = .agg #[I 3, I 1, .slice (some ⟨b + 5, 0, none⟩) 3 3]
  | 1, v, _ => v = .agg #[I 16, I 17]
  | 2, v, _ => v = .agg #[I 1, I 16, I 17]
  | 3, v, W => ∃ g, v = .slice (some ⟨g, 0, none⟩) 1 1 ∧ RowAt W B0 g [I 1, I 16, I 17]
  | 4, v, W => ∃ g, v = .slice (some ⟨g, 0, none⟩) 3 3 ∧ RowAt W B0 g [I 0, I 1, I 2]
  | 5, v, W => ∃ g, v = .slice (some ⟨g, 0, none⟩) 2 2 ∧ RowAt W B0 g [I 20, I 30]
  | 6, v, W => ∃ g h, v = .agg #[.slice (some ⟨g, 0, none⟩) 3 3, .slice (some ⟨h, 0, none⟩) 2 2, I 2, I 80, I 10, I 4] ∧ RowAt W B0 g [I 0, I 1, I 2] ∧ RowAt W B0 h [I 20, I 30]
  | 7, _, W => RowAt W 0 b [I 3, I 1, .slice (some ⟨b + 5, 0, none⟩) 3 3]
  | 8, v, W => ∃ g, v = .slice (some ⟨g, 0, none⟩) 1 1 ∧ RowAt W B0 g [I 1, I 16, I 17]
  | 9, _, W => ∃ g h, RowAt W 0 (b + 1) [.slice (some ⟨g, 0, none⟩) 3 3, .slice (some ⟨h, 0, none⟩) 2 2, I 2, I 80, I 10, I 4] ∧ RowAt W B0 g [I 0, I 1, I 2] ∧ RowAt W B0 h [I 20, I 30]
  | _, _, _ => True
def sS (j k : Nat) : Prop := (j = 7 ∧ k = b) ∨ (j = 9 ∧ k = b + 1)
def Shape (W : World) : Prop := (∀ o, o < 3 → (∃ u, W.cell? ⟨b, o, none⟩ = some u) ∧ W.frozen? ⟨b, o, none⟩ = false) ∧ (∀ o, o < 6 → (∃ u, W.cell? ⟨b + 1, o, none⟩ = some u) ∧ W.frozen? ⟨b + 1, o, none⟩ = false)
def sG (j : Nat) (W W' : World) : Prop := Frm W.heap.size (sS b j) W W' ∧ (Shape b W → Shape b W')
def sC (W0 W : World) : Prop := Frm B0 (fun k => k = b ∨ k = b + 1) W0 W ∧ Shape b W ∧ B0 ≤ W.heap.size

theorem s_stab (h0 : b + 6 < B0) : ∀ i j v W W', i ≠ j → sV b B0 i v W → sG b j W W' → sV b B0 i v W' := by
  intro i j v W W' hne hV hG
  obtain ⟨hF, _⟩ := hG
  have no : ∀ {g us}, RowAt W B0 g us → ¬ sS b j g := fun h hs => by
    have := h.1
    rcases hs with ⟨_, h⟩ | ⟨_, h⟩ <;> omega
  match i, hV, hne with
  | 0, h, _ => exact h
  | 1, h, _ => exact h
  | 2, h, _ => exact h
  | 3, ⟨g, h1, h2⟩, _ => exact ⟨g, h1, h2.frm hF (no h2)⟩
  | 4, ⟨g, h1, h2⟩, _ => exact ⟨g, h1, h2.frm hF (no h2)⟩
  | 5, ⟨g, h1, h2⟩, _ => exact ⟨g, h1, h2.frm hF (no h2)⟩
  | 6, ⟨g, h, h1, h2, h3⟩, _ => exact ⟨g, h, h1, h2.frm hF (no h2), h3.frm hF (no h3)⟩
  | 7, h, hne => exact RowAt.frm h hF (fun hs => by rcases hs with ⟨h, _⟩ | ⟨_, h⟩ <;> omega)
  | 8, ⟨g, h1, h2⟩, _ => exact ⟨g, h1, h2.frm hF (no h2)⟩
  | 9, ⟨g, h, h1, h2, h3⟩, hne => exact ⟨g, h, h1.frm hF (fun hs => by rcases hs with ⟨h, _⟩ | ⟨h, _⟩ <;> omega), h2.frm hF (no h2), h3.frm hF (no h3)⟩
  | n + 10, _, _ => trivial
theorem s_C (h0 : b + 6 < B0) {W0 : World} : ∀ j W W', sC b B0 W0 W → sG b j W W' → sC b B0 W0 W' := fun j W W' ⟨h1, h2, h3⟩ ⟨h4, h5⟩ =>
  ⟨h1.trans (h4.mono h3 (fun k hk hs => by rcases hs with ⟨_, h⟩ | ⟨_, h⟩ <;> omega)), h5 h2, Nat.le_trans h3 h4.size⟩
end

theorem Shape.set {b : Nat} {W : World} (h : Shape b W) (p : Addr) (u : Value) : Shape b (W.setCell p u) :=
  ⟨fun o ho => ⟨by obtain ⟨x, hx⟩ := (h.1 o ho).1; obtain ⟨y, hy⟩ := cell?_setCell_some (p := p) (x := u) hx; exact ⟨y, hy⟩, by simpa [go_sem] using (h.1 o ho).2⟩,
   fun o ho => ⟨by obtain ⟨x, hx⟩ := (h.2 o ho).1; obtain ⟨y, hy⟩ := cell?_setCell_some (p := p) (x := u) hx; exact ⟨y, hy⟩, by simpa [go_sem] using (h.2 o ho).2⟩⟩
theorem sG_refl (b j : Nat) (W : World) : sG b j W W := ⟨Frm.refl _ _ _, id⟩
theorem Shape.below {b : Nat} {W W' : World} (h : Shape b W) (hB : Below W.heap.size W W') (hb : b + 1 < W.heap.size) : Shape b W' :=
  ⟨fun o ho => ⟨(h.1 o ho).1.imp fun _ hu => (hB.cell (p := ⟨b, o, none⟩) (by simp; omega)).trans hu, (hB.frozen (p := ⟨b, o, none⟩) (by simp; omega)).trans (h.1 o ho).2⟩,
   fun o ho => ⟨(h.2 o ho).1.imp fun _ hu => (hB.cell (p := ⟨b + 1, o, none⟩) hb).trans hu, (hB.frozen (p := ⟨b + 1, o, none⟩) hb).trans (h.2 o ho).2⟩⟩
theorem sG_alloc (b j : Nat) (W : World) (o : Obj) (hb : b + 1 < W.heap.size) : sG b j W (W.alloc o) := ⟨(Frm.refl _ _ _).alloc (Nat.le_refl _) _, fun h => h.below ((Below.refl _ _).alloc (Nat.le_refl _) _) hb⟩

/-- The document's example. -/
def g0 : Grd := ⟨3, 1, [(12, 20), (14, 18), (14, 14)]⟩
def l0 : List (Int × Int × Int) := [(1, 16, 17)]
def d0 : Deck := ⟨[0, 1, 2], [20, 30], 2, 80, 10, 4⟩
def SamplePost (w : World) (e : Ending) (w' : World) : Prop := ∃ A B Ap Al, e = .returned (.tuple #[g0.val A 3, .slice B 1 1, d0.val Ap Al 3 2]) ∧ Args w' A g0 B l0 Ap Al d0 ∧ Below w.heap.size w w'

set_option maxRecDepth 100000 in
set_option maxHeartbeats 2000000 in
theorem sample_any (w : World) : Calls Try.prog 35 #[] w (SamplePost w) := by
  go_enter Try.func35, Try.ntmps35
  go_wp2_with (go_at_call 34; refine (span34 _ _ _).mono ?_; rintro e w1 ⟨rfl, rfl⟩)
  generalize hW0 : World.alloc _ _ = W0
  have hB0 : W0.heap.size = w.heap.size + 7 := by rw [← hW0]; simp
  have hbox : W0.cell? ⟨w.heap.size + 1 + 1 + 1 + 1 + 1 + 1, 0, none⟩ = some (I 3) ∧ W0.cell? ⟨w.heap.size + 1 + 1 + 1 + 1 + 1 + 1, 1, none⟩ = some (I 1) ∧ W0.cell? ⟨w.heap.size + 1 + 1 + 1 + 1 + 1 + 1, 2, none⟩ = some (.slice (some ⟨w.heap.size + 1 + 1 + 1 + 1 + 1, 0, none⟩) 3 3) := by
    rw [← hW0]; simp [go_sem]
  have hsp : RowAt W0 0 (w.heap.size + 5) [I 12, I 20, I 14, I 18, I 14, I 14] := by
    rw [← hW0]
    refine ⟨Nat.zero_le _, by simp, fun k hk => ?_⟩
    rcases k with _ | _ | _ | _ | _ | _ | k <;> first | (simp [go_sem]; done) | (simp at hk; omega)
  have hsh : Shape w.heap.size W0 := by
    rw [← hW0]
    refine ⟨fun o ho => ?_, fun o ho => ?_⟩
    · rcases o with _ | _ | _ | o <;> first | (simp [go_sem]; done) | omega
    · rcases o with _ | _ | _ | _ | _ | _ | o <;> first | (simp [go_sem]; done) | omega
  have hbe : Below w.heap.size w W0 := by rw [← hW0]; (repeat' (first | assumption | exact Below.refl _ _ | refine Below.drew ?_ | refine below_drewN ?_ _ | refine Below.setCell ?_ (by first | omega | (simp; done) | (simp; omega)) _ | refine Below.alloc ?_ (by first | omega | (simp; done) | (simp; omega)) _ | refine Below.trans ?_ (Below.mono (by assumption) (by first | omega | (simp; done) | (simp; omega)))))
  clear hW0
  have HBOX := Lib.hid hbox
  have HSP := Lib.hid hsp
  clear hbox hsp
  refine (wpIn_wide (n := 9)).1 ?_
  refine wpIn_region_ops [some 9, some 10, some 11, some 12, some 13, some 14, some 15, none, some 1, none]
     (sV w.heap.size W0.heap.size) (sG w.heap.size) (sC w.heap.size W0.heap.size W0) rfl (by kernel_rfl) (by kernel_rfl) (by kernel_rfl) (fun _ d _ _ _ h => by cases d <;> exact h) ?_ (s_C _ _ (by omega)) (fun i j v W W' h _ => s_stab _ _ (by omega) i j v W W' h) ?_ ?_
  · exact ⟨(Frm.refl _ _ _).drew, hsh, Nat.le_refl _⟩
  · refine ⟨?_, ?_, ?_, ?_, ?_, ?_, ?_, ?_, ?_, ?_, trivial⟩
    · (intro val W hC hd K hK; have HC := Lib.hid hC; have HD := Lib.hid hd; have HK := Lib.hid hK; clear hC hd hK; simp only [putD, Act.put, List.setIfInBounds_toArray, List.set_cons_succ, List.set_cons_zero, Nat.zero_add, Nat.reduceAdd] at HK ⊢)
      have c0 := (HC.out.1.cell (b := w.heap.size + 1 + 1 + 1 + 1 + 1 + 1) (o := 0) (by omega) (by omega)).trans HBOX.out.1
      have c1 := (HC.out.1.cell (b := w.heap.size + 1 + 1 + 1 + 1 + 1 + 1) (o := 1) (by omega) (by omega)).trans HBOX.out.2.1
      have c2 := (HC.out.1.cell (b := w.heap.size + 1 + 1 + 1 + 1 + 1 + 1) (o := 2) (by omega) (by omega)).trans HBOX.out.2.2
      gi_wp2
      exact HK.out _ _ (sG_refl _ _ _) rfl
    · (intro val W hC hd K hK; have HC := Lib.hid hC; have HD := Lib.hid hd; have HK := Lib.hid hK; clear hC hd hK; simp only [putD, Act.put, List.setIfInBounds_toArray, List.set_cons_succ, List.set_cons_zero, Nat.zero_add, Nat.reduceAdd] at HK ⊢)
      gi_wp2_with (refine And.intro trivial ?_; gi_at_call 34; refine callsIn_wide.2 ((span34 _ _ _).mono ?_); rintro e w2 ⟨rfl, rfl⟩)
      exact HK.out _ _ (sG_alloc _ _ _ _ (by have := HC.out.2.2; omega)) rfl
    · (intro val W hC hd K hK; have HC := Lib.hid hC; have HD := Lib.hid hd; have HK := Lib.hid hK; clear hC hd hK; simp only [putD, Act.put, List.setIfInBounds_toArray, List.set_cons_succ, List.set_cons_zero, Nat.zero_add, Nat.reduceAdd] at HK ⊢)
      have e1 : val 1 = .agg #[I 16, I 17] := HD.out.1
      rw [e1] at HK ⊢
      gi_wp2
      exact HK.out _ _ (sG_refl _ _ _) rfl
    · (intro val W hC hd K hK; have HC := Lib.hid hC; have HD := Lib.hid hd; have HK := Lib.hid hK; clear hC hd hK; simp only [putD, Act.put, List.setIfInBounds_toArray, List.set_cons_succ, List.set_cons_zero, Nat.zero_add, Nat.reduceAdd] at HK ⊢)
      have e1 : val 2 = .agg #[I 1, I 16, I 17] := HD.out.1
      rw [e1] at HK ⊢
      gi_wp2
      exact HK.out _ _ (sG_alloc _ _ _ _ (by have := HC.out.2.2; omega)) ⟨_, rfl, HC.out.2.2, by simp, fun k hk => by rcases k with _ | _ | _ | k <;> first | (simp [go_sem]; done) | (simp at hk; omega)⟩
    · (intro val W hC hd K hK; have HC := Lib.hid hC; have HD := Lib.hid hd; have HK := Lib.hid hK; clear hC hd hK; simp only [putD, Act.put, List.setIfInBounds_toArray, List.set_cons_succ, List.set_cons_zero, Nat.zero_add, Nat.reduceAdd] at HK ⊢)
      gi_wp2
      exact HK.out _ _ (sG_alloc _ _ _ _ (by have := HC.out.2.2; omega)) ⟨_, rfl, HC.out.2.2, by simp, fun k hk => by rcases k with _ | _ | _ | k <;> first | (simp [go_sem]; done) | (simp at hk; omega)⟩
    · (intro val W hC hd K hK; have HC := Lib.hid hC; have HD := Lib.hid hd; have HK := Lib.hid hK; clear hC hd hK; simp only [putD, Act.put, List.setIfInBounds_toArray, List.set_cons_succ, List.set_cons_zero, Nat.zero_add, Nat.reduceAdd] at HK ⊢)
      gi_wp2
      exact HK.out _ _ (sG_alloc _ _ _ _ (by have := HC.out.2.2; omega)) ⟨_, rfl, HC.out.2.2, by simp, fun k hk => by rcases k with _ | _ | k <;> first | (simp [go_sem]; done) | (simp at hk; omega)⟩
    · (intro val W hC hd K hK; have HC := Lib.hid hC; have HD := Lib.hid hd; have HK := Lib.hid hK; clear hC hd hK; simp only [putD, Act.put, List.setIfInBounds_toArray, List.set_cons_succ, List.set_cons_zero, Nat.zero_add, Nat.reduceAdd] at HK ⊢)
      obtain ⟨g, e1, h1⟩ : sV w.heap.size W0.heap.size 4 (val 4) W := HD.out.1
      obtain ⟨h, e2, h2⟩ : sV w.heap.size W0.heap.size 5 (val 5) W := HD.out.2.1
      have H1 := Lib.hid h1
      have H2 := Lib.hid h2
      rw [e1, e2] at HK ⊢
      clear e1 e2 h1 h2
      gi_wp2
      exact HK.out _ _ (sG_refl _ _ _) ⟨g, h, rfl, H1.out, H2.out⟩
    · (intro val W hC hd K hK; have HC := Lib.hid hC; have HD := Lib.hid hd; have HK := Lib.hid hK; clear hC hd hK; simp only [putD, Act.put, List.setIfInBounds_toArray, List.set_cons_succ, List.set_cons_zero, Nat.zero_add, Nat.reduceAdd] at HK ⊢)
      have e1 : val 0 = .agg #[I 3, I 1, .slice (some ⟨w.heap.size + 1 + 1 + 1 + 1 + 1, 0, none⟩) 3 3] := HD.out.1
      rw [e1] at HK ⊢
      clear e1
      have hs := HC.out.2.1.1
      obtain ⟨⟨u0, c0⟩, f0⟩ := hs 0 (by omega)
      obtain ⟨⟨u1, c1⟩, f1⟩ := hs 1 (by omega)
      obtain ⟨⟨u2, c2⟩, f2⟩ := hs 2 (by omega)
      clear hs
      gi_wp2
      refine HK.out undef _ ⟨(((Frm.refl _ _ _).setCell (.inr (.inl ⟨rfl, rfl⟩)) _).setCell (.inr (.inl ⟨rfl, rfl⟩)) _).setCell (.inr (.inl ⟨rfl, rfl⟩)) _, fun h => ((h.set _ _).set _ _).set _ _⟩ ⟨Nat.zero_le _, by simp; have := HC.out.2.2; omega, fun k hk => ?_⟩
      rcases k with _ | _ | _ | k <;> first | (simp [go_sem, c0, c1, c2]; done) | (simp at hk; omega)
    · (intro val W hC hd K hK; have HC := Lib.hid hC; have HD := Lib.hid hd; have HK := Lib.hid hK; clear hC hd hK; simp only [putD, Act.put, List.setIfInBounds_toArray, List.set_cons_succ, List.set_cons_zero, Nat.zero_add, Nat.reduceAdd] at HK ⊢)
      have e1 : ∃ g, val 3 = .slice (some ⟨g, 0, none⟩) 1 1 ∧ RowAt W W0.heap.size g [I 1, I 16, I 17] := HD.out.1
      obtain ⟨g, e1, h1⟩ := e1
      have H1 := Lib.hid h1
      rw [e1] at HK ⊢
      clear e1 h1
      gi_wp2
      exact HK.out _ _ (sG_refl _ _ _) ⟨g, rfl, H1.out⟩
    · (intro val W hC hd K hK; have HC := Lib.hid hC; have HD := Lib.hid hd; have HK := Lib.hid hK; clear hC hd hK; simp only [putD, Act.put, List.setIfInBounds_toArray, List.set_cons_succ, List.set_cons_zero, Nat.zero_add, Nat.reduceAdd] at HK ⊢)
      obtain ⟨g, h, e1, h1, h2⟩ : sV w.heap.size W0.heap.size 6 (val 6) W := HD.out.1
      have H1 := Lib.hid h1
      have H2 := Lib.hid h2
      rw [e1] at HK ⊢
      clear e1 h1 h2
      have hs := HC.out.2.1.2
      obtain ⟨⟨u0, c0⟩, f0⟩ := hs 0 (by omega)
      obtain ⟨⟨u1, c1⟩, f1⟩ := hs 1 (by omega)
      obtain ⟨⟨u2, c2⟩, f2⟩ := hs 2 (by omega)
      obtain ⟨⟨u3, c3⟩, f3⟩ := hs 3 (by omega)
      obtain ⟨⟨u4, c4⟩, f4⟩ := hs 4 (by omega)
      obtain ⟨⟨u5, c5⟩, f5⟩ := hs 5 (by omega)
      clear hs
      gi_wp2
      have hF : Frm W.heap.size (sS w.heap.size 9) W _ := ((((((Frm.refl _ _ W).setCell (p := ⟨w.heap.size + 1, 0, none⟩) (.inr (.inr ⟨rfl, rfl⟩)) (.slice (some ⟨g, 0, none⟩) 3 3)).setCell (p := ⟨w.heap.size + 1, 1, none⟩) (.inr (.inr ⟨rfl, rfl⟩)) (.slice (some ⟨h, 0, none⟩) 2 2)).setCell (p := ⟨w.heap.size + 1, 2, none⟩) (.inr (.inr ⟨rfl, rfl⟩)) (I 2)).setCell (p := ⟨w.heap.size + 1, 3, none⟩) (.inr (.inr ⟨rfl, rfl⟩)) (I 80)).setCell (p := ⟨w.heap.size + 1, 4, none⟩) (.inr (.inr ⟨rfl, rfl⟩)) (I 10)).setCell (p := ⟨w.heap.size + 1, 5, none⟩) (.inr (.inr ⟨rfl, rfl⟩)) (I 4)
      refine HK.out undef _ ⟨hF, fun h => (((((h.set _ _).set _ _).set _ _).set _ _).set _ _).set _ _⟩ ⟨g, h, ⟨Nat.zero_le _, by simp; have := HC.out.2.2; omega, fun k hk => ?_⟩, H1.out.frm hF (by intro hs; have := H1.out.1; rcases hs with ⟨_, h⟩ | ⟨_, h⟩ <;> omega), H2.out.frm hF (by intro hs; have := H2.out.1; rcases hs with ⟨_, h⟩ | ⟨_, h⟩ <;> omega)⟩
      rcases k with _ | _ | _ | _ | _ | _ | k <;> first | (simp [go_sem, c0, c1, c2, c3, c4, c5]; done) | (simp at hk; omega)
  · intro val W hC hd
    obtain ⟨_, _, _, _, _, _, _, v7, v8, v9, _⟩ := hd
    have hq := hbe.trans (hC.1.below (B := w.heap.size) (by omega) (by omega))
    have R7 : RowAt W 0 w.heap.size [I 3, I 1, .slice (some ⟨w.heap.size + 5, 0, none⟩) 3 3] := v7
    obtain ⟨x8, e8, R8⟩ : sV w.heap.size W0.heap.size 8 (val 8) W := v8
    obtain ⟨x4, x5, R9, R4, R5⟩ : sV w.heap.size W0.heap.size 9 (val 9) W := v9
    have R1 := HSP.out.frm (hC.1.mono (N' := W0.heap.size) (Nat.le_refl _) fun _ _ h => h) (by omega)
    have c70 := R7.2.2 0 (by simp)
    have c71 := R7.2.2 1 (by simp)
    have c72 := R7.2.2 2 (by simp)
    have c90 := R9.2.2 0 (by simp)
    have c91 := R9.2.2 1 (by simp)
    have c92 := R9.2.2 2 (by simp)
    have c93 := R9.2.2 3 (by simp)
    have c94 := R9.2.2 4 (by simp)
    have c95 := R9.2.2 5 (by simp)
    simp only [List.getElem_cons_zero, List.getElem_cons_succ] at c70 c71 c72 c90 c91 c92 c93 c94 c95
    have hfin : SamplePost w (.returned (.tuple #[.agg #[I 3, I 1, .slice (some ⟨w.heap.size + 5, 0, none⟩) 3 3], .slice (some ⟨x8, 0, none⟩) 1 1, .agg #[.slice (some ⟨x4, 0, none⟩) 3 3, .slice (some ⟨x5, 0, none⟩) 2 2, I 2, I 80, I 10, I 4]])) W := by
      have z := R1.2.1
      refine ⟨_, _, _, _, rfl, ⟨fun _ => ⟨_, 0, rfl, R1.2.1, fun k hk => ?_⟩, fun _ => ⟨_, 0, rfl, R8.2.1, fun k hk => ?_⟩, by decide, by decide, fun _ => ⟨_, 0, rfl, R4.2.1, fun k hk => ?_⟩, fun _ => ⟨_, 0, rfl, R5.2.1, fun k hk => ?_⟩, by decide, by decide⟩, hq⟩
      · match k, hk with
        | 0, _ => exact ⟨R1.2.2 0 (by simp), R1.2.2 1 (by simp)⟩
        | 1, _ => exact ⟨R1.2.2 2 (by simp), R1.2.2 3 (by simp)⟩
        | 2, _ => exact ⟨R1.2.2 4 (by simp), R1.2.2 5 (by simp)⟩
      · match k, hk with
        | 0, _ => exact ⟨R8.2.2 0 (by simp), R8.2.2 1 (by simp), R8.2.2 2 (by simp)⟩
      · match k, hk with
        | 0, _ => exact R4.2.2 0 (by simp)
        | 1, _ => exact R4.2.2 1 (by simp)
        | 2, _ => exact R4.2.2 2 (by simp)
      · match k, hk with
        | 0, _ => exact R5.2.2 0 (by simp)
        | 1, _ => exact R5.2.2 1 (by simp)
    have HFIN := Lib.hid hfin
    have E8 := Lib.hid e8
    clear v7 e8 R7 R8 R9 R4 R5 R1 hq hfin hC
    simp only [putD, Act.put, List.setIfInBounds_toArray, List.set_cons_succ, List.set_cons_zero, Nat.zero_add, Nat.reduceAdd]
    rw [E8.out]
    go_wp2
    exact bodyPost_ret (v := .tuple #[.agg #[I 3, I 1, .slice (some ⟨w.heap.size + 5, 0, none⟩) 3 3], .slice (some ⟨x8, 0, none⟩) 1 1, .agg #[.slice (some ⟨x4, 0, none⟩) 3 3, .slice (some ⟨x5, 0, none⟩) 2 2, I 2, I 80, I 10, I 4]]) (by simp [results, Try.results35, go_sem, c70, c71, c72, c90, c91, c92, c93, c94, c95]) rfl HFIN.out
end Go.Proofs.Ytilmlgngnbokfaa
