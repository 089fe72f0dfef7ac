/- GroundNames: the walk. -/
import Derived.Test.YtilmlgngnbokfaaNm
import Derived.Test.YtilmlgngnbokfaaBx
import Derived.Test.YtilmlgngnbokfaaX8
import Derived.ArgAppend
namespace Go.Proofs.Ytilmlgngnbokfaa
set_option linter.unusedVariables false
set_option linter.unusedSimpArgs false
open Go Go.RowKit

section
variable {F : Fence} {n : Nat} {P : Program} {Q : Exit → Act → World → Prop}
theorem opIn_append_grows (hro : F.round = none) (w : World) {o : Oper} {a : Act} {K : Act → World → Prop} (s x : Operand) (t : TypeId)
    (ho : o.op = .call { callee := .builtin .append, args := #[s, x], argTypes := #[t, t] })
    (e : TypeId) (i : TypeInfo) (z : Value) (size bytes : Nat) (ht : P.underlying t = some (.slice e)) (hi : P.info? e = some i) (hz : i.zero = some z)
    (hsize : i.size = size) (hby : i.bytes = bytes) (hzs : z.cells.size = size) (hsz : 0 < size)
    (b : Addr) (k cap : Nat) (olds : List Value) (hs : a.eval s = .slice (some b) k cap) (hlo : olds.length = k * size) (holds : ∀ j u, olds[j]? = some u → w.cell? (b.add j) = some u)
    (ad : Addr) (m c : Nat) (news : List Value) (hx : a.eval x = .slice (some ad) m c) (hl : news.length = m * size) (hnews : ∀ j u, news[j]? = some u → w.cell? (ad.add j) = some u)
    (hg : cap < k + m) (h63 : k + m ≤ maxLen) (hbytes : (k + m) * bytes ≤ 140737488355328)
    (h : ∀ v' w', w'.ownsRow w.heap.size e size v' (k + m) (olds ++ news) → w.grownBy w' none → K (a.put o.dst v') w') : o.wpIn F n P a w K Q := by
  obtain ⟨v', w', hr, h2, h3⟩ := run_append_arg_grows (P := P) w t o.type e i z size bytes ht hi hz hsize hby hzs hsz b k cap olds hlo holds ad m c news hl hnews hg h63 hbytes
  unfold Oper.wpIn
  refine ⟨?_, ?_⟩
  · simp [Oper.about, ho, resolve, Target.leads, Sem.run_pure]
  · rw [hro, Oper.semAt_none]
    simp only [execOp, ho, resolve, invoke, builtin, Sem.run_bind, Sem.run_pure, Result.andThen_ok, List.map_toArray, List.map_cons, List.map_nil, hs, hx, hr]
    exact h v' w' h2 h3
end

/-- What each operation of the third region yields. -/
def mV (A : Option Addr) (bb boff : Nat) : Nat → Value → World → Prop
  | 0, v, _ => v = g0V A
  | 1, v, _ => v = .slice (some ⟨bb, boff, none⟩) 1 1
  | 2, v, _ => v = .agg #[I 18, I 30]
  | 3, v, _ => v = .agg #[I 1, I 18, I 30]
  | 4, v, W => ∃ g, v = .slice (some ⟨g, 0, none⟩) 1 1 ∧ RowAt W 0 g [I 1, I 18, I 30]
  | 5, v, W => ∃ A c, v = .slice A 2 c ∧ Threes W W.heap.size A l1
  | 6, v, _ => v = .tuple #[.slice none 0 0, I 1, I 6]
  | 7, v, _ => v = .tuple #[.slice none 0 0, I 1, I 6]
  | 8, v, _ => v = .slice none 0 0
  | 9, v, _ => v = I 1
  | 10, v, _ => v = I 6
  | 11, v, _ => v = .slice none 0 0
  | 12, v, _ => v = I 1
  | 13, v, _ => v = I 6
  | _, _, _ => True
theorem RowAt.call {W W' : World} {B0 g : Nat} {us : List Value} (h : RowAt W B0 g us) (hB : Below W.heap.size W W') : RowAt W' B0 g us :=
  ⟨h.1, Nat.lt_of_lt_of_le h.2.1 hB.size, fun k hk => (hB.cell (p := ⟨g, k, none⟩) h.2.1).trans (h.2.2 k hk)⟩
theorem mV_stab (A : Option Addr) (bb boff : Nat) (i : Nat) (v : Value) (W W' : World) (h : mV A bb boff i v W) (hB : Below W.heap.size W W') : mV A bb boff i v W' := by
  rcases i with _ | _ | _ | _ | _ | _ | _ | _ | _ | _ | _ | _ | _ | _ | i
  case succ.succ.succ.succ.zero => obtain ⟨g, h1, h2⟩ := h; exact ⟨g, h1, h2.call hB⟩
  case succ.succ.succ.succ.succ.zero => obtain ⟨A, c, h1, h2⟩ := h; exact ⟨A, c, h1, (h2.below hB).more hB.size⟩
  all_goals exact h
theorem info55 : (Try.prog.info? 55).map (fun i => (i.zero, i.size, i.bytes)) = some (some (.agg #[.int .i64 0, .int .i64 0, .int .i64 0]), 3, 24) := by kernel_rfl

set_option maxRecDepth 100000 in
set_option maxHeartbeats 1600000 in
theorem names_any (w : World) : Calls Try.prog 10 #[] w fun e w' => e = .returned (.bool true) ∧ Below w.heap.size w w' := by
  obtain ⟨i0, hi0, hi1, hi2, hi3⟩ := info_parts info55
  have hu45 : Try.prog.underlying 45 = some (.slice 55) := Try.underlying45
  have HU := Lib.hid hu45; have HI0 := Lib.hid hi0; have HI1 := Lib.hid hi1; have HI2 := Lib.hid hi2; have HI3 := Lib.hid hi3
  clear hu45 hi0 hi1 hi2 hi3
  go_enter Try.func10, Try.ntmps10
  go_wp2_with (first
    | (go_at_call 35; refine (sample_val _).mono ?_; rintro e w1 ⟨A, B, Ap, Al, rfl, ha, hB⟩; have hz := hB.size; obtain ⟨bb, boff, rfl, hbb, hbc⟩ := ha.hl (by decide); have HARG := Lib.hid ha; clear ha)
    | (go_at_call 21; refine (crustA_any _ (HARG.out.below (by (repeat' (first | assumption | exact Below.refl _ _ | refine Below.drew ?_ | refine below_drewN ?_ _ | refine Below.setCell ?_ (by first | omega | (simp; done) | (simp; omega)) _ | refine Below.alloc ?_ (by first | omega | (simp; done) | (simp; omega)) _ | refine Below.trans ?_ (Below.mono (by assumption) (by first | omega | (simp; done) | (simp; omega)))))))).mono ?_; rintro e w2 ⟨⟨gg, cap, rfl, hcr⟩, hB2⟩; have HCR := Lib.hid hcr; clear hcr))
  generalize hW0 : World.alloc (World.alloc _ _) _ = W0 at hB2
  have hs0 : W0.heap.size = w1.heap.size + 2 := by rw [← hW0]; simp
  have hce : ∀ W, Below W0.heap.size W0 W → (W.cell? ⟨w1.heap.size, 0, none⟩ = some (I 3) ∧ W.cell? ⟨w1.heap.size, 1, none⟩ = some (I 1) ∧ W.cell? ⟨w1.heap.size, 2, none⟩ = some (.slice A 3 3)) ∧
      (W.cell? ⟨w1.heap.size + 1, 0, none⟩ = some (.slice Ap 3 3) ∧ W.cell? ⟨w1.heap.size + 1, 1, none⟩ = some (.slice Al 2 2) ∧ W.cell? ⟨w1.heap.size + 1, 2, none⟩ = some (I 2) ∧ W.cell? ⟨w1.heap.size + 1, 3, none⟩ = some (I 80) ∧ W.cell? ⟨w1.heap.size + 1, 4, none⟩ = some (I 10) ∧ W.cell? ⟨w1.heap.size + 1, 5, none⟩ = some (I 4)) ∧
      Args W A g0 (some ⟨bb, boff, none⟩) l0 Ap Al d0 ∧ Below w.heap.size w W := fun W hBW => by
    have h1 : Below w1.heap.size w1 W := Below.trans (by rw [← hW0]; (repeat' (first | assumption | exact Below.refl _ _ | refine Below.drew ?_ | refine below_drewN ?_ _ | refine Below.setCell ?_ (by first | omega | (simp; done) | (simp; omega)) _ | refine Below.alloc ?_ (by first | omega | (simp; done) | (simp; omega)) _ | refine Below.trans ?_ (Below.mono (by assumption) (by first | omega | (simp; done) | (simp; omega)))))) (hBW.mono (by omega))
    refine ⟨⟨?_, ?_, ?_⟩, ⟨?_, ?_, ?_, ?_, ?_, ?_⟩, HARG.out.below h1, hB.trans (h1.mono hz)⟩
    iterate 9 (rw [hBW.cell (p := ⟨_, _, none⟩) (by simp; omega), ← hW0]; simp [go_sem])
  have hbc2 := hbc 0 (by decide)
  have HCE := Lib.hid hce
  have HBC := Lib.hid hbc2
  clear hce hbc hbc2 hW0
  have HB2 := Lib.hid hB2
  clear hB2
  refine (wpIn_wide (n := 9)).1 ?_
  refine wpIn_region_ops [some 42, some 43, some 44, some 45, some 46, some 47, some 48, some 41, some 49, some 50, some 51, some 7, some 8, some 9]
     (mV A bb boff) (fun _ W W' => Below W.heap.size W W') (fun W => Below w2.heap.size w2 W) rfl (by kernel_rfl) (by kernel_rfl) (by kernel_rfl) (fun _ d _ _ _ h => by cases d <;> exact h) (Below.refl _ _).drew (fun j W W' h hG => h.trans (hG.mono h.size)) (fun i j v W W' _ _ h hG => mV_stab _ _ _ i v W W' h hG) ?_ ?_
  · refine ⟨?_, ?_, ?_, ?_, ?_, ?_, ?_, ?_, ?_, ?_, ?_, ?_, ?_, ?_, trivial⟩
    · (intro val W hC hd K hK; have HC := Lib.hid hC; have HD := Lib.hid hd; have HK := Lib.hid hK; clear hC hd hK; simp only [putD, Act.put, List.setIfInBounds_toArray, List.set_cons_succ, List.set_cons_zero, Nat.zero_add, Nat.reduceAdd] at HK ⊢)
      obtain ⟨⟨c0, c1, c2⟩, _, _, _⟩ := HCE.out W (HB2.out.trans (HC.out.mono HB2.out.size))
      gi_wp2
      exact HK.out _ _ (Below.refl _ _) rfl
    · (intro val W hC hd K hK; have HC := Lib.hid hC; have HD := Lib.hid hd; have HK := Lib.hid hK; clear hC hd hK; simp only [putD, Act.put, List.setIfInBounds_toArray, List.set_cons_succ, List.set_cons_zero, Nat.zero_add, Nat.reduceAdd] at HK ⊢)
      gi_wp2
      exact HK.out _ _ (Below.refl _ _) rfl
    · (intro val W hC hd K hK; have HC := Lib.hid hC; have HD := Lib.hid hd; have HK := Lib.hid hK; clear hC hd hK; simp only [putD, Act.put, List.setIfInBounds_toArray, List.set_cons_succ, List.set_cons_zero, Nat.zero_add, Nat.reduceAdd] at HK ⊢)
      gi_wp2_with (refine And.intro trivial ?_; gi_at_call 34; refine callsIn_wide.2 ((span34 _ _ _).mono ?_); rintro e w3 ⟨rfl, rfl⟩)
      exact HK.out _ _ ((Below.refl _ _).alloc (Nat.le_refl _) _) rfl
    · (intro val W hC hd K hK; have HC := Lib.hid hC; have HD := Lib.hid hd; have HK := Lib.hid hK; clear hC hd hK; simp only [putD, Act.put, List.setIfInBounds_toArray, List.set_cons_succ, List.set_cons_zero, Nat.zero_add, Nat.reduceAdd] at HK ⊢)
      have e1 : val 2 = .agg #[I 18, I 30] := HD.out.1
      rw [e1] at HK ⊢
      gi_wp2
      exact HK.out _ _ (Below.refl _ _) rfl
    · (intro val W hC hd K hK; have HC := Lib.hid hC; have HD := Lib.hid hd; have HK := Lib.hid hK; clear hC hd hK; simp only [putD, Act.put, List.setIfInBounds_toArray, List.set_cons_succ, List.set_cons_zero, Nat.zero_add, Nat.reduceAdd] at HK ⊢)
      have e1 : val 3 = .agg #[I 1, I 18, I 30] := HD.out.1
      rw [e1] at HK ⊢
      gi_wp2
      exact HK.out _ _ ((Below.refl _ _).alloc (Nat.le_refl _) _) ⟨_, rfl, Nat.zero_le _, by simp, fun k hk => by rcases k with _ | _ | _ | k <;> first | (simp [go_sem]; done) | (simp at hk; omega)⟩
    · (intro val W hC hd K hK; have HC := Lib.hid hC; have HD := Lib.hid hd; have HK := Lib.hid hK; clear hC hd hK; simp only [putD, Act.put, List.setIfInBounds_toArray, List.set_cons_succ, List.set_cons_zero, Nat.zero_add, Nat.reduceAdd] at HK ⊢)
      have e1 : val 1 = .slice (some ⟨bb, boff, none⟩) 1 1 := HD.out.1
      obtain ⟨g4, e4, h4⟩ : ∃ g, val 4 = .slice (some ⟨g, 0, none⟩) 1 1 ∧ RowAt W 0 g [I 1, I 18, I 30] := HD.out.2.1
      have H4 := Lib.hid h4
      rw [e1, e4] at HK ⊢
      clear e1 e4 h4 HD
      have hq1 := HB2.out.trans (HC.out.mono HB2.out.size)
      have ha := (HCE.out W hq1).2.2.1
      obtain ⟨_, _, he, _, hcell⟩ := ha.hl (by decide)
      cases he
      have hc := hcell 0 (by decide)
      simp [l0] at hc
      refine opIn_append_grows rfl W _ _ 45 rfl 55 i0 _ 3 24 HU.out HI0.out HI1.out HI2.out HI3.out rfl (by decide) ⟨bb, boff, none⟩ 1 1 [I 1, I 16, I 17] rfl rfl ?holds ⟨g4, 0, none⟩ 1 1 [I 1, I 18, I 30] rfl rfl ?hnews (by decide) (by decide) (by decide) ?_
      case holds =>
        intro j u hj
        rcases j with _ | _ | _ | j <;> first | (simp at hj; subst hj; simp [Addr.add_lit, hc]; done) | (simp at hj; done)
      case hnews =>
        intro j u hj
        rw [Addr.add_lit, Nat.zero_add]
        obtain ⟨hj', rfl⟩ := List.getElem?_eq_some_iff.1 hj
        exact H4.out.2.2 j hj'
      intro v' w' hown hgrow
      rcases hown.2 with ⟨_, h⟩ | ⟨g, cp, cur, rfl, _⟩
      · omega
      · refine HK.out _ _ (grown_below hgrow (Nat.le_refl _) (by simp)) ⟨_, _, rfl, fun _ => ⟨g, 0, rfl, (hown.lt g rfl).2, fun k hk => ?_⟩⟩
        have hcs := fun j u h => hown.cells (g := g) rfl j u h
        simp only [Addr.add_lit] at hcs
        rcases k with _ | _ | k
        · exact ⟨by simpa [l1] using hcs 0 _ rfl, by simpa [l1] using hcs 1 _ rfl, by simpa [l1] using hcs 2 _ rfl⟩
        · exact ⟨by simpa [l1] using hcs 3 _ rfl, by simpa [l1] using hcs 4 _ rfl, by simpa [l1] using hcs 5 _ rfl⟩
        · simp [l1] at hk; omega
    · (intro val W hC hd K hK; have HC := Lib.hid hC; have HD := Lib.hid hd; have HK := Lib.hid hK; clear hC hd hK; simp only [putD, Act.put, List.setIfInBounds_toArray, List.set_cons_succ, List.set_cons_zero, Nat.zero_add, Nat.reduceAdd] at HK ⊢)
      have e0 : val 0 = g0V A := HD.out.1
      obtain ⟨A5, c5, e5, h5⟩ : ∃ A c, val 5 = .slice A 2 c ∧ Threes W W.heap.size A l1 := HD.out.2.1
      have H5 := Lib.hid h5
      have ha := (HCE.out W (HB2.out.trans (HC.out.mono HB2.out.size))).2.2.1
      have HR := Lib.hid ha.hr
      rw [e0, e5] at HK ⊢
      clear e0 e5 h5 HD ha
      gi_wp2_with (refine And.intro trivial ?_; gi_at_call 21; refine callsIn_wide.2 ((crustB_any W HR.out H5.out).mono ?_); rintro e w3 ⟨rfl, hB3⟩)
      exact HK.out _ _ hB3 rfl
    · (intro val W hC hd K hK; have HC := Lib.hid hC; have HD := Lib.hid hd; have HK := Lib.hid hK; clear hC hd hK; simp only [putD, Act.put, List.setIfInBounds_toArray, List.set_cons_succ, List.set_cons_zero, Nat.zero_add, Nat.reduceAdd] at HK ⊢)
      have e1 : val 6 = .tuple #[.slice none 0 0, I 1, I 6] := HD.out.1
      rw [e1] at HK ⊢
      gi_wp2
      exact HK.out _ _ (Below.refl _ _) rfl
    iterate 3
      · (intro val W hC hd K hK; have HC := Lib.hid hC; have HD := Lib.hid hd; have HK := Lib.hid hK; clear hC hd hK; simp only [putD, Act.put, List.setIfInBounds_toArray, List.set_cons_succ, List.set_cons_zero, Nat.zero_add, Nat.reduceAdd] at HK ⊢)
        have e1 : val 7 = .tuple #[.slice none 0 0, I 1, I 6] := HD.out.1
        rw [e1] at HK ⊢
        gi_wp2
        exact HK.out _ _ (Below.refl _ _) rfl
    · (intro val W hC hd K hK; have HC := Lib.hid hC; have HD := Lib.hid hd; have HK := Lib.hid hK; clear hC hd hK; simp only [putD, Act.put, List.setIfInBounds_toArray, List.set_cons_succ, List.set_cons_zero, Nat.zero_add, Nat.reduceAdd] at HK ⊢)
      have e1 : val 8 = .slice none 0 0 := HD.out.1
      rw [e1] at HK ⊢
      gi_wp2
      exact HK.out _ _ (Below.refl _ _) rfl
    · (intro val W hC hd K hK; have HC := Lib.hid hC; have HD := Lib.hid hd; have HK := Lib.hid hK; clear hC hd hK; simp only [putD, Act.put, List.setIfInBounds_toArray, List.set_cons_succ, List.set_cons_zero, Nat.zero_add, Nat.reduceAdd] at HK ⊢)
      have e1 : val 9 = I 1 := HD.out.1
      rw [e1] at HK ⊢
      gi_wp2
      exact HK.out _ _ (Below.refl _ _) rfl
    · (intro val W hC hd K hK; have HC := Lib.hid hC; have HD := Lib.hid hd; have HK := Lib.hid hK; clear hC hd hK; simp only [putD, Act.put, List.setIfInBounds_toArray, List.set_cons_succ, List.set_cons_zero, Nat.zero_add, Nat.reduceAdd] at HK ⊢)
      have e1 : val 10 = I 6 := HD.out.1
      rw [e1] at HK ⊢
      gi_wp2
      exact HK.out _ _ (Below.refl _ _) rfl
  · intro val W hC hd
    obtain ⟨_, _, _, _, _, _, _, _, _, _, _, v11, v12, v13, _⟩ := hd
    have e11 : val 11 = .slice none 0 0 := v11
    have e12 : val 12 = I 1 := v12
    have e13 : val 13 = I 6 := v13
    have hq3 := HB2.out.trans (hC.mono HB2.out.size)
    simp only [putD, Act.put, List.setIfInBounds_toArray, List.set_cons_succ, List.set_cons_zero, Nat.zero_add, Nat.reduceAdd]
    rw [e11, e12, e13]
    clear v11 v12 v13 e11 e12 e13
    obtain ⟨⟨c0, c1, c2⟩, ⟨d0c, d1, d2, d3, d4, d5⟩, ha, hlow⟩ := HCE.out W hq3
    have HA := Lib.hid ha
    clear ha
    go_wp2
    have HRW := Lib.hid hC
    have hwant : ∀ W', Below (W.heap.size + 1) (W.alloc (.cells #[I 140, I 1, I 250, I 1, I 190, I 1] 33)) W' → Below w2.heap.size w2 W' ∧ ∀ i, i < 3 → W'.cell? ⟨W.heap.size, i * 2, none⟩ = some (I (wantA i).1) ∧ W'.cell? ⟨W.heap.size, i * 2 + 1, none⟩ = some (I (wantA i).2) := fun W' h => by
      refine ⟨((HRW.out.alloc HRW.out.size _).trans (h.mono (by have := HRW.out.size; omega))), fun i hi => ?_⟩
      rw [h.cell (p := ⟨W.heap.size, _, none⟩) (by simp), h.cell (p := ⟨W.heap.size, _, none⟩) (by simp)]
      rcases i with _ | _ | _ | i <;> first | (simp [go_sem, wantA]; done) | omega
    have HWANT := Lib.hid hwant
    clear hwant hC hq3 c0 c1 c2 d0c d1 d2 d3 d4 d5 HA
    go_loopw [10, 57] (fun s10 s57 wr => ∃ k : Nat, k ≤ 3 ∧ s57 = I k ∧ s10 = .bool true ∧ Below (W.heap.size + 1) (W.alloc (.cells #[I 140, I 1, I 250, I 1, I 190, I 1] 33)) wr) (fun _ s57 _ => 3 - (intOf s57).toNat)
    case atStart => exact ⟨0, by omega, rfl, rfl, by simpa using Below.refl _ (W.alloc (.cells #[I 140, I 1, I 250, I 1, I 190, I 1] 33))⟩
    case round =>
      obtain ⟨k, hk, rfl, rfl, hBr⟩ := hrel
      obtain ⟨hr, hwt⟩ := HWANT.out _ hBr
      obtain ⟨⟨c0, c1, c2⟩, ⟨d0c, d1, d2, d3, d4, d5⟩, ha, _⟩ := HCE.out _ (HB2.out.trans (hr.mono HB2.out.size))
      by_cases hlt : k < 3
      · obtain ⟨q0, q1⟩ := hwt k hlt
        have hcall := fun W h => loadA_any (A := A) (B := some ⟨bb, boff, none⟩) (Ap := Ap) (Al := Al) (l := l0) k hlt W h
        generalize (wantA k).1 = p1 at *
        generalize (wantA k).2 = p2 at *
        have HCALL := Lib.hid hcall
        have HA := Lib.hid ha
        have hz1 := hBr.size
        have hza : w1.heap.size + 1 < wr.heap.size := by have h1 := hr.size; have h2 := HB2.out.size; omega
        have hzb : w1.heap.size < wr.heap.size := by omega
        have hzc : W.heap.size < wr.heap.size := by simp at hz1; omega
        clear hcall ha hwt
        go_wp2_with (go_at_call 14; refine (HCALL.out _ (HA.out.below (by (repeat' (first | assumption | exact Below.refl _ _ | refine Below.drew ?_ | refine below_drewN ?_ _ | refine Below.setCell ?_ (by first | omega | (simp; done) | (simp; omega)) _ | refine Below.alloc ?_ (by first | omega | (simp; done) | (simp; omega)) _ | refine Below.trans ?_ (Below.mono (by assumption) (by first | omega | (simp; done) | (simp; omega)))))))).mono ?_; rintro e w4 ⟨rfl, hB4⟩; have hz4 := hB4.size; have hh4 := hB4.alloc hB4.size (.cells #[I p1, I p2] 33); have r0 : (w4.alloc (.cells #[I p1, I p2] 33)).cell? ⟨wr.heap.size, 0, none⟩ = some (I p1) := (hh4.cell (p := ⟨wr.heap.size, 0, none⟩) (by simp)).trans (by simp [go_sem]); have r1 : (w4.alloc (.cells #[I p1, I p2] 33)).cell? ⟨wr.heap.size, 1, none⟩ = some (I p2) := (hh4.cell (p := ⟨wr.heap.size, 1, none⟩) (by simp)).trans (by simp [go_sem]); have hb5 : Below wr.heap.size wr (w4.alloc (.cells #[I p1, I p2] 33)) := below_call (by (repeat' (first | assumption | exact Below.refl _ _ | refine Below.drew ?_ | refine below_drewN ?_ _ | refine Below.setCell ?_ (by first | omega | (simp; done) | (simp; omega)) _ | refine Below.alloc ?_ (by first | omega | (simp; done) | (simp; omega)) _ | refine Below.trans ?_ (Below.mono (by assumption) (by first | omega | (simp; done) | (simp; omega)))))) hh4; clear hB4 hh4)
        go_roundw
        case rel => exact ⟨k + 1, by omega, by go_num, rfl, hBr.trans (hb5.mono (by simpa using hz1))⟩
        case measure => simp [intOf]; omega
      · obtain rfl : k = 3 := by omega
        go_wp2
        obtain ⟨wx, rfl⟩ : ∃ wx : World, wx = wr := ⟨_, rfl⟩
        have HRX := Lib.hid hr
        have hwant : ∀ W', Below (wx.heap.size + 1) (wx.alloc (.cells #[I 130, I 1, I 550, I 3, I 670, I 3] 33)) W' → Below w2.heap.size w2 W' ∧ ∀ i, i < 3 → W'.cell? ⟨wx.heap.size, i * 2, none⟩ = some (I (wantB i).1) ∧ W'.cell? ⟨wx.heap.size, i * 2 + 1, none⟩ = some (I (wantB i).2) := fun W' h => by
          refine ⟨((HRX.out.alloc HRX.out.size _).trans (h.mono (by have := HRX.out.size; omega))), fun i hi => ?_⟩
          rw [h.cell (p := ⟨wx.heap.size, _, none⟩) (by simp), h.cell (p := ⟨wx.heap.size, _, none⟩) (by simp)]
          rcases i with _ | _ | _ | i <;> first | (simp [go_sem, wantB]; done) | omega
        have HWANTB := Lib.hid hwant
        clear hwant hr hwt hBr HRW HWANT c0 c1 c2 d0c d1 d2 d3 d4 d5 ha
        go_loopw [10, 84] (fun s10 s84 wr => ∃ k : Nat, k ≤ 3 ∧ s84 = I k ∧ s10 = .bool true ∧ Below (wx.heap.size + 1) (wx.alloc (.cells #[I 130, I 1, I 550, I 3, I 670, I 3] 33)) wr) (fun _ s84 _ => 3 - (intOf s84).toNat)
        case atStart => exact ⟨0, by omega, rfl, rfl, by simpa using Below.refl _ (wx.alloc (.cells #[I 130, I 1, I 550, I 3, I 670, I 3] 33))⟩
        case round =>
          obtain ⟨k, hk, rfl, rfl, hBr⟩ := hrel
          obtain ⟨hr, hwt⟩ := HWANTB.out _ hBr
          obtain ⟨⟨c0, c1, c2⟩, ⟨d0c, d1, d2, d3, d4, d5⟩, ha, _⟩ := HCE.out _ (HB2.out.trans (hr.mono HB2.out.size))
          have hz1 := hBr.size
          have hza : w1.heap.size + 1 < wr.heap.size := by have h1 := hr.size; have h2 := HB2.out.size; omega
          have hzb : w1.heap.size < wr.heap.size := by omega
          have hzc : wx.heap.size < wr.heap.size := by simp at hz1; omega
          have HA := Lib.hid ha
          clear ha
          by_cases hlt : k < 3
          · obtain ⟨q0, q1⟩ := hwt k hlt
            have hcall := fun W h => loadB_any (A := A) (B := some ⟨bb, boff, none⟩) (Ap := Ap) (Al := Al) (l := l0) k hlt W h
            generalize (wantB k).1 = p1 at *
            generalize (wantB k).2 = p2 at *
            have HCALL := Lib.hid hcall
            have hk1 : IntKind.i64.wrap ((k : Int) + 1) = (k : Int) + 1 := IntWalk.i64_in _ (by omega)
            clear hcall hwt
            go_wp2_with (go_at_call 14; refine (HCALL.out _ (HA.out.below (by (repeat' (first | assumption | exact Below.refl _ _ | refine Below.drew ?_ | refine below_drewN ?_ _ | refine Below.setCell ?_ (by first | omega | (simp; done) | (simp; omega)) _ | refine Below.alloc ?_ (by first | omega | (simp; done) | (simp; omega)) _ | refine Below.trans ?_ (Below.mono (by assumption) (by first | omega | (simp; done) | (simp; omega)))))))).mono ?_; rintro e w4 ⟨rfl, hB4⟩; have hz4 := hB4.size; have hh4 := hB4.alloc hB4.size (.cells #[I p1, I p2] 33); have r0 : (w4.alloc (.cells #[I p1, I p2] 33)).cell? ⟨wr.heap.size, 0, none⟩ = some (I p1) := (hh4.cell (p := ⟨wr.heap.size, 0, none⟩) (by first | (simp; done) | (simp; omega))).trans (by simp [go_sem]); have r1 : (w4.alloc (.cells #[I p1, I p2] 33)).cell? ⟨wr.heap.size, 1, none⟩ = some (I p2) := (hh4.cell (p := ⟨wr.heap.size, 1, none⟩) (by first | (simp; done) | (simp; omega))).trans (by simp [go_sem]); have hb5 : Below wr.heap.size wr (w4.alloc (.cells #[I p1, I p2] 33)) := below_call (by (repeat' (first | assumption | exact Below.refl _ _ | refine Below.drew ?_ | refine below_drewN ?_ _ | refine Below.setCell ?_ (by first | omega | (simp; done) | (simp; omega)) _ | refine Below.alloc ?_ (by first | omega | (simp; done) | (simp; omega)) _ | refine Below.trans ?_ (Below.mono (by assumption) (by first | omega | (simp; done) | (simp; omega)))))) hh4; clear hB4 hh4)
            go_roundw
            case rel =>
              (repeat apply Exists.intro)
              refine ⟨?_, rfl⟩
              exact ⟨k + 1, by omega, by go_num, rfl, hBr.trans (hb5.mono (by simpa using hz1))⟩
            case measure => simp [intOf]; omega
          · obtain rfl : k = 3 := by omega
            have hq := HB2.out.trans (hr.mono HB2.out.size)
            have HAc := HA
            clear HWANTB hwt
            have tok1 : True := trivial
            go_wp2_with (first
              | (go_at_call 25; have _t := tok1; refine (brkA_any _ HAc.out).mono ?_; rintro e wn ⟨rfl, hBn⟩; clear tok1; have hr2 := hr.trans (hBn.mono hr.size); obtain ⟨⟨x0, x1, x2⟩, ⟨y0, y1, y2, y3, y4, y5⟩, ha2, hlw2⟩ := HCE.out _ (HB2.out.trans (hr2.mono HB2.out.size)); have HA2 := Lib.hid ha2; clear ha2 hBn)
              | (go_at_call 25; refine (brkB_any _ HA2.out).mono ?_; rintro e wn3 ⟨rfl, hBn⟩; have hr3 := hr2.trans (hBn.mono hr2.size); obtain ⟨⟨m0, m1, m2⟩, ⟨m3, m4, m5, m6, m7, m8⟩, ha2, hlwm⟩ := HCE.out _ (HB2.out.trans (hr3.mono HB2.out.size)); have HA3 := Lib.hid ha2; clear ha2 hBn)
              | (go_at_call 27; refine (mostB_any _ HA3.out).mono ?_; rintro e wn4 ⟨rfl, hBn⟩; have hr4 := hr3.trans (hBn.mono hr3.size); obtain ⟨⟨n0, n1, n2⟩, ⟨n3, n4, n5, n6, n7, n8⟩, ha2, hlwn⟩ := HCE.out _ (HB2.out.trans (hr4.mono HB2.out.size)); have HA4 := Lib.hid ha2; clear ha2 hBn)
              | (go_at_call 29; refine (apartB_any _ HA4.out).mono ?_; rintro e wn5 ⟨rfl, hBn⟩; have hr5 := hr4.trans (hBn.mono hr4.size); obtain ⟨⟨o0, o1, o2⟩, ⟨o3, o4, o5, o6, o7, o8⟩, ha2, hlwo⟩ := HCE.out _ (HB2.out.trans (hr5.mono HB2.out.size)); have HA5 := Lib.hid ha2; clear ha2 hBn)
              | (go_at_call 34; refine (span34 _ _ _).mono ?_; rintro e w6 ⟨rfl, rfl⟩)
              | (go_at_call 24; refine (spans_any _ _ [(12, 20), (16, 17), (14, 14)] _ _ [(12, 20), (16, 17), (14, 14)] _ ?hx ?hy (by decide) (by decide)).mono ?_; (case hx => exact (HCR.out.below (hr5.trans ((by (repeat' (first | assumption | exact Below.refl _ _ | refine Below.drew ?_ | refine below_drewN ?_ _ | refine Below.setCell ?_ (by first | omega | (simp; done) | (simp; omega)) _ | refine Below.alloc ?_ (by first | omega | (simp; done) | (simp; omega)) _ | refine Below.trans ?_ (Below.mono (by assumption) (by first | omega | (simp; done) | (simp; omega))))) : Below wn5.heap.size wn5 _).mono hr5.size))).more (hr5.trans ((by (repeat' (first | assumption | exact Below.refl _ _ | refine Below.drew ?_ | refine below_drewN ?_ _ | refine Below.setCell ?_ (by first | omega | (simp; done) | (simp; omega)) _ | refine Below.alloc ?_ (by first | omega | (simp; done) | (simp; omega)) _ | refine Below.trans ?_ (Below.mono (by assumption) (by first | omega | (simp; done) | (simp; omega))))) : Below wn5.heap.size wn5 _).mono hr5.size)).size); (case hy => exact fun _ => ⟨_, 0, rfl, by simp, fun k hk => by rcases k with _ | _ | _ | k <;> first | (simp [go_sem]; done) | (simp at hk; omega)⟩); rintro e w7 ⟨bq, rfl, hbq, hB7⟩; obtain rfl : bq = true := hbq.2 rfl; have hb7 : Below wn5.heap.size wn5 w7 := below_call (by (repeat' (first | assumption | exact Below.refl _ _ | refine Below.drew ?_ | refine below_drewN ?_ _ | refine Below.setCell ?_ (by first | omega | (simp; done) | (simp; omega)) _ | refine Below.alloc ?_ (by first | omega | (simp; done) | (simp; omega)) _ | refine Below.trans ?_ (Below.mono (by assumption) (by first | omega | (simp; done) | (simp; omega)))))) hB7; clear hB7)
              | (go_at_call 13; refine (alive_any _).mono ?_; rintro e w8 ⟨rfl, hB8⟩))
            go_ret
            have hl7 := hlwo.trans (hb7.mono hlwo.size)
            exact ⟨rfl, hl7.trans (hB8.mono hl7.size)⟩
end Go.Proofs.Ytilmlgngnbokfaa
