/- What a set needs, of the program. -/
import Derived.Test.YtfebhofihioaoaaS18
import Derived.Test.YtfebhofihioaoaaS19
import Derived.Test.YtfebhofihioaoaaRr
namespace Go.Proofs.Ytfebhofihioaoaa
set_option linter.unusedVariables false
set_option linter.unusedSimpArgs false
open Go Go.RowKit Go.Shelf

attribute [local go_sem] Oper.semAt_some

def baseTo (x : Prk) (S k : Nat) : Int := sumN (fun i => if S.testBit i then need1 (x.ho i) (x.lo i) else 0) k
theorem baseTo_bd {x : Prk} (hx : PrkOk x) (S : Nat) : ∀ k, k ≤ x.n → 0 ≤ baseTo x S k ∧ baseTo x S k ≤ 6291456 := fun k hk => by
  have h := needTo_bd hx S (c := x.lo) (fun i hi => ⟨Int.le_refl _, (hx.peo i hi).2.1⟩) k hk
  have := sum_lo hx hk
  have e : needTo x S x.lo k = baseTo x S k := rfl
  omega
theorem cells_of_cell {W : World} {b r : Nat} {o : Obj} {v : Value} (h : W.cell? ⟨b, 0, none⟩ = some v) (ho : W.heap[r]? = some o) (hc : o.isCells = false) : r ≠ b := fun e => by
  subst e
  cases o <;> simp_all [World.cell?, Obj.isCells]
theorem box_own {W W' : World} {b : Nat} {v : Value} {vs : List Value} {row : Option Nat} (h : Box W b (v :: vs)) (hg : W.grownBy W' row) (hr : ∀ r, row = some r → ∃ o : Obj, W.heap[r]? = some o ∧ o.isCells = false) : Box W' b (v :: vs) :=
  h.grown hg (fun e => by
    obtain ⟨o, h1, h2⟩ := hr _ e
    exact cells_of_cell (h.at_ 0 v rfl).1 h1 h2 rfl)
theorem wp_norm {P : Program} {s : Code} {Q : Exit → Act → World → Prop} {a : Act} {w : World} (h : s.wp P (fun e a' w' => e = .normal ∧ Q .normal a' w') a w) : s.wp P Q a w :=
  wp_mono h fun e a' w' h => by obtain ⟨rfl, h⟩ := h; exact h
set_option maxRecDepth 100000 in
set_option maxHeartbeats 8000000 in
theorem need47 (x : Prk) (P : Nat) (A : Option Addr) (c : Nat) (v0 : Value) (S : Nat) (w : World) (hx : PrkOk x) (hP : ParkAt w P x A c v0) (hS : S < 64) :
    Calls Try.prog 47 #[.pointer (some ⟨P, 0, none⟩), I S] w fun e w' => e = .returned (I (needV x S)) ∧ RowKit.Below w.heap.size w w' := by
  have HX := Lib.hid hx
  have hn6 : x.sp.length ≤ 6 := hx.n6
  have HLO : Hid (∀ k (h : k < x.sp.length), x.sp[k].1 = x.lo k ∧ x.sp[k].2.1 = x.hi k ∧ x.sp[k].2.2.1 = x.ho k ∧ x.sp[k].2.2.2 = x.ne k) := Lib.hid fun k h => by simp [Prk.lo, Prk.hi, Prk.ho, Prk.ne, List.getD, h]
  have HPA := Lib.hid hP
  have HIB : Hid (∀ W, RowKit.Below w.heap.size w W → ∀ k, k < x.sp.length → ∃ ab ao, A = some ⟨ab, ao, none⟩ ∧ ab < w.heap.size ∧ W.cell? ⟨ab, ao + k * 4, none⟩ = some (I (x.lo k)) ∧ W.cell? ⟨ab, ao + k * 4 + 1, none⟩ = some (I (x.hi k)) ∧ W.cell? ⟨ab, ao + k * 4 + 2, none⟩ = some (I (x.ho k)) ∧ W.cell? ⟨ab, ao + k * 4 + 3, none⟩ = some (I (x.ne k))) := Lib.hid fun W hW k hk => by
    obtain ⟨ab, ao, hAe, haz, hac⟩ := (HPA.out.row.below hW) (by omega)
    obtain ⟨a0, a1, a2, a3⟩ := hac k hk
    obtain ⟨e0, e1, e2, e3⟩ := HLO.out k hk
    rw [e0] at a0
    rw [e1] at a1
    rw [e2] at a2
    rw [e3] at a3
    exact ⟨ab, ao, hAe, haz, a0, a1, a2, a3⟩
  have HPC : Hid (∀ W, RowKit.Below w.heap.size w W → W.cell? ⟨P, 0, none⟩ = some (.slice A x.sp.length c)) := Lib.hid fun W hW => (HPA.out.call hW).sp
  have hPz := hP.lt
  have HSL : Hid (∀ k, k ≤ x.sp.length → 0 ≤ sumN x.lo k ∧ sumN x.lo k ≤ 6291456) := Lib.hid fun k hk => sum_lo hx hk
  have HBS := Lib.hid (baseTo_bd hx S)
  have HSS : Hid (∀ k, sumN x.lo (k + 1) = sumN x.lo k + x.lo k ∧ baseTo x S (k + 1) = baseTo x S k + if S.testBit k then need1 (x.ho k) (x.lo k) else 0) := Lib.hid fun k => ⟨rfl, rfl⟩
  have HBN : Hid (baseTo x S x.sp.length = baseC x S) := Lib.hid rfl
  have HMO : Hid (sumN x.lo x.sp.length ≤ x.ahi) := Lib.hid hx.most
  have hall := hx.all
  have c0 := HPC.out _ (RowKit.Below.refl _ w)
  have c2 := hP.ahi
  have H51 : Hid (∀ W, RowKit.Below w.heap.size w W → Calls Try.prog 51 #[.pointer (some ⟨P, 0, none⟩), I S] W fun e w' => ∃ (bq : Nat) (l : List (Int × Int)), e = .returned (.func (.func 60) #[] #[.pointer (some ⟨bq, 0, none⟩)]) ∧ l.Perm (runsL x S x.n) ∧ l.Pairwise (fun a b => a.1 ≤ b.1) ∧ RunsAt w' W.heap.size bq l ∧ RowKit.Below W.heap.size W w') := Lib.hid fun W hW => runs51 x P A c v0 S W HX.out (HPA.out.call hW) hS
  clear hP hx
  obtain ⟨ah, hah⟩ : ∃ ah, x.ahi = ah := ⟨_, rfl⟩
  rw [hah] at c2 HMO hall
  have HAH := Lib.hid hah
  clear hah
  refine calls_marks Try.func47 rfl ?_
  simp only [Try.ntmps47, List.size_toArray, List.length_cons, List.length_nil, Nat.reduceAdd, Nat.reduceSub, Array.replicate_succ, Array.replicate_zero, List.push_toArray, List.append_toArray, List.nil_append, List.cons_append]
  have HB0 : Hid (RowKit.Below w.heap.size w ((w.alloc (.cells #[I ah] 3)).alloc (.cells #[I 0] 3))) := Lib.hid (by (repeat' (first | assumption | exact Below.refl _ _ | refine Below.drew ?_ | refine below_drewN ?_ _ | refine Below.setCell ?_ (by first | omega | (simp; done) | (simp; omega)) _ | refine Below.alloc ?_ (by first | omega | (simp; done) | (simp; omega)) _ | refine Below.trans ?_ (Below.mono (by assumption) (by first | omega | (simp; done) | (simp; omega))))))
  have HZ0 : Hid (((w.alloc (.cells #[I ah] 3)).alloc (.cells #[I 0] 3)).heap.size = w.heap.size + 2) := Lib.hid (by simp)
  have H5 : Hid (Box ((w.alloc (.cells #[I ah] 3)).alloc (.cells #[I 0] 3)) w.heap.size [I ah]) := Lib.hid ((Box.new w [I ah] 3).alloc _)
  have H6 : Hid (Box ((w.alloc (.cells #[I ah] 3)).alloc (.cells #[I 0] 3)) (w.heap.size + 1) [I 0]) := Lib.hid (by have := Box.new (w.alloc (.cells #[I ah] 3)) [I 0] 3; simpa only [World.size_alloc] using this)
  go_wp2_with (fail)
  clear c0 c2
  generalize (w.alloc (.cells #[I ah] 3)).alloc (.cells #[I 0] 3) = w0 at *
  go_loopw [23] (fun s23 wr => ∃ k : Nat, k ≤ x.sp.length ∧ s23 = I k ∧ RowKit.Below w.heap.size w wr ∧ w.heap.size + 2 ≤ wr.heap.size ∧ Hid (Box wr w.heap.size [I (ah - sumN x.lo k)]) ∧ Hid (Box wr (w.heap.size + 1) [I (baseTo x S k)])) (fun s _ => x.sp.length - (intOf s).toNat)
  case atStart => exact ⟨0, by omega, rfl, HB0.out, by have := HZ0.out; omega, Lib.hid (by simpa [sumN] using H5.out), Lib.hid (by simpa [baseTo, sumN] using H6.out)⟩
  case round =>
    clear HB0 HZ0 H5 H6
    obtain ⟨k, hk, rfl, hB, hz, H5, H6⟩ := hrel
    have hsl := HSL.out k hk
    have hbs := HBS.out k hk
    by_cases hlt : k < x.sp.length
    · obtain ⟨ab, ao, hAe, haz, a0, a1, a2, a3⟩ := HIB.out _ hB k hlt
      subst hAe
      have c0 := HPC.out _ hB
      have hpk := HX.out.peo k hlt
      obtain ⟨ho1, ho2⟩ := HX.out.hold k hlt
      have hnb := need1_bd (h := x.ho k) (p := x.lo k) ho1 (by omega)
      have hsl1 := HSL.out (k + 1) hlt
      have hbs1 := HBS.out (k + 1) hlt
      have HSK := Lib.hid (HSS.out k)
      have HE1 : Hid (ah - sumN x.lo (k + 1) = ah - sumN x.lo k - x.lo k) := Lib.hid (by rw [HSK.out.1]; omega)
      have HE2 : Hid (baseTo x S (k + 1) = baseTo x S k + if S.testBit k then need1 (x.ho k) (x.lo k) else 0) := Lib.hid HSK.out.2
      have H38 : Hid (∀ W : World, Calls Try.prog 38 #[.agg #[I (x.lo k), I (x.hi k), I (x.ho k), I (x.ne k)], I (x.lo k)] W fun e w' => e = .returned (I (need1 (x.ho k) (x.lo k))) ∧ RowKit.Below W.heap.size W w') := Lib.hid fun W => need38 _ _ _ _ _ W ho1 ho2 (by omega) (by omega)
      obtain ⟨hb1, hb2⟩ := bit_step (k := k) hS
      clear HSK hsl1 hbs1
      generalize sumN x.lo k = sl at *
      generalize baseTo x S k = sb at *
      generalize need1 (x.ho k) (x.lo k) = q at *
      generalize x.lo k = lo at *
      generalize x.hi k = hi at *
      generalize x.ho k = ho at *
      generalize x.ne k = ne at *
      obtain ⟨bt, hbt⟩ : ∃ b, S.testBit k = b := ⟨_, rfl⟩
      rw [hbt] at hb2 HE2
      generalize S / 2 ^ k = sq at *
      clear hbt
      have p0 : (0 : Int) ≤ (k : Int) := by omega
      have p1 : (k : Int) < (x.sp.length : Int) := by omega
      have p3 : (k : Int) ≤ 64 := by omega
      have HXa : Hid (Box (wr.alloc (.cells #[I lo, I hi, I ho, I ne] 48)) wr.heap.size [I lo, I hi, I ho, I ne]) := Lib.hid (Box.new wr [I lo, I hi, I ho, I ne] 48)
      have hBa2 : RowKit.Below w.heap.size w (wr.alloc (.cells #[I lo, I hi, I ho, I ne] 48)) := hB.alloc hB.size _
      have H5a := H5.out.alloc (.cells #[I lo, I hi, I ho, I ne] 48)
      have H6a := H6.out.alloc (.cells #[I lo, I hi, I ho, I ne] 48)
      have HB1 : Hid (RowKit.Below w.heap.size w ((wr.alloc (.cells #[I lo, I hi, I ho, I ne] 48)).setCell ⟨w.heap.size, 0, none⟩ (I (ah - sl - lo)))) := Lib.hid (hBa2.setCell (Nat.le_refl _) _)
      have HXb : Hid (Box ((wr.alloc (.cells #[I lo, I hi, I ho, I ne] 48)).setCell ⟨w.heap.size, 0, none⟩ (I (ah - sl - lo))) wr.heap.size [I lo, I hi, I ho, I ne]) := Lib.hid (HXa.out.far (p := ⟨w.heap.size, 0, none⟩) (show w.heap.size ≠ _ by omega) _)
      have H5b : Hid (Box ((wr.alloc (.cells #[I lo, I hi, I ho, I ne] 48)).setCell ⟨w.heap.size, 0, none⟩ (I (ah - sl - lo))) w.heap.size [I (ah - sl - lo)]) := Lib.hid (H5a.set 0 _)
      have H6b : Hid (Box ((wr.alloc (.cells #[I lo, I hi, I ho, I ne] 48)).setCell ⟨w.heap.size, 0, none⟩ (I (ah - sl - lo))) (w.heap.size + 1) [I sb]) := Lib.hid (H6a.far (p := ⟨w.heap.size, 0, none⟩) (show w.heap.size ≠ _ by omega) _)
      have hzb : ((wr.alloc (.cells #[I lo, I hi, I ho, I ne] 48)).setCell ⟨w.heap.size, 0, none⟩ (I (ah - sl - lo))).heap.size = wr.heap.size + 1 := by simp
      obtain ⟨x5, y5⟩ := H5a.at_ 0 _ rfl
      clear H5a H6a H5 H6
      cases bt
      · simp only [if_false, Bool.false_eq_true] at hb2
        have HF : Hid (baseTo x S (k + 1) = sb) := Lib.hid (by rw [HE2.out]; simp)
        go_wp2_with (fail)
        go_roundw
        case rel => first | exact ⟨k + 1, by omega, by go_num, HB1.out, by first | omega | (simp; omega), by rw [HE1.out]; exact H5b, by rw [HF.out]; exact H6b⟩ | ((repeat apply Exists.intro); refine ⟨?_, rfl⟩; exact ⟨k + 1, by omega, by go_num, HB1.out, by first | omega | (simp; omega), by rw [HE1.out]; exact H5b, by rw [HF.out]; exact H6b⟩)
        case measure => first | (simp [intOf]; done) | (simp [intOf]; omega)
      · simp only [if_true] at hb2
        have HF : Hid (baseTo x S (k + 1) = sb + q) := Lib.hid (by rw [HE2.out]; simp)
        go_wp2_with (fail)
        clear a0 a1 a2 a3 c0 x5 y5
        generalize (wr.alloc (.cells #[I lo, I hi, I ho, I ne] 48)).setCell ⟨w.heap.size, 0, none⟩ (I (ah - sl - lo)) = wc at *
        obtain ⟨n0, _⟩ := HXb.out.at_ 0 _ rfl
        obtain ⟨n1, _⟩ := HXb.out.at_ 1 _ rfl
        obtain ⟨n2, _⟩ := HXb.out.at_ 2 _ rfl
        obtain ⟨n3, _⟩ := HXb.out.at_ 3 _ rfl
        have hwr : IntKind.i64.wrap (sb + q) = sb + q := IntWalk.i64_in _ (by omega)
        refine wp_norm ?_
        refine (wpIn_wide (n := 9)).1 ?_
        refine wpIn_region_plan (Plan.ons [0, 1, 2, 3, 4, 5, 6, 7] .fin) [0] (fun W' => RowKit.Below wc.heap.size wc W') [7] rfl (by kernel_rfl) (by kernel_rfl) (fun _ _ _ _ _ h => by cases h.1) (RowKit.Below.refl _ _).drew ?_
        (refine ordQ_held (I sb) rfl rfl rfl rfl (fun W' hC' => ?_) (fun K hK => ?_); (focus (obtain ⟨g0, _⟩ := (H6b.out.call hC').at_ 0 _ rfl; go_simp; try exact ⟨rfl, rfl⟩)); go_simp; refine hK _ ?_; clear hK K)
        iterate 4 (refine ordQ_li rfl rfl rfl (fun K hK => ?_); go_simp; refine hK _ ?_; clear hK K)
        refine ordQ_hv rfl rfl rfl (fun K hK => ?_)
        gi_wp2_with (refine And.intro trivial ?_; gi_at_call 38; refine callsIn_wide.2 ((H38.out _).mono ?_); rintro e w5 ⟨rfl, hB5⟩)
        have hb5 : RowKit.Below wc.heap.size wc w5 := by simpa using (RowKit.Below.refl _ _).drew.trans hB5
        refine hK _ _ (fun _ => hb5) ?_
        clear hK K hB5
        (refine ordQ_li rfl rfl rfl (fun K hK => ?_); go_simp; refine hK _ ?_; clear hK K)
        have H6c := H6b.out.call hb5
        have H5c := H5b.out.call hb5
        obtain ⟨x6, y6⟩ := H6c.at_ 0 _ rfl
        have HB6 : Hid (RowKit.Below w.heap.size w (w5.setCell ⟨w.heap.size + 1, 0, none⟩ (I (sb + q)))) := Lib.hid (((HB1.out.trans (hb5.mono HB1.out.size))).setCell (p := ⟨w.heap.size + 1, 0, none⟩) (by simp) _)
        have H5d : Hid (Box (w5.setCell ⟨w.heap.size + 1, 0, none⟩ (I (sb + q))) w.heap.size [I (ah - sl - lo)]) := Lib.hid (H5c.far (p := ⟨w.heap.size + 1, 0, none⟩) (by simp) _)
        have H6d : Hid (Box (w5.setCell ⟨w.heap.size + 1, 0, none⟩ (I (sb + q))) (w.heap.size + 1) [I (sb + q)]) := Lib.hid (H6c.set 0 _)
        have hz5 : w.heap.size + 2 ≤ (w5.setCell ⟨w.heap.size + 1, 0, none⟩ (I (sb + q))).heap.size := by have := hb5.size; simp; omega
        refine ordQ_hv rfl rfl rfl (fun K hK => ?_)
        gi_wp2
        refine hK _ _ (fun h => by cases h) ?_
        clear hK K
        refine ordQ_fin ?_
        refine ⟨rfl, ?_⟩
        go_wp2_with (fail)
        go_roundw
        case rel => first | exact ⟨k + 1, by omega, by go_num, HB6.out, hz5, by rw [HE1.out]; exact H5d, by rw [HF.out]; exact H6d⟩ | ((repeat apply Exists.intro); refine ⟨?_, rfl⟩; exact ⟨k + 1, by omega, by go_num, HB6.out, hz5, by rw [HE1.out]; exact H5d, by rw [HF.out]; exact H6d⟩)
        case measure => first | (simp [intOf]; done) | (simp [intOf]; omega)
    · obtain rfl : k = x.sp.length := by omega
      have HBN2 := HBN.out
      have HNG : Hid (∀ l : List (Int × Int), l.Perm (runsL x S x.n) → l.Pairwise (fun a b => a.1 ≤ b.1) → needV x S = baseTo x S x.sp.length + greed l (ah - sumN x.lo x.sp.length)) := Lib.hid fun l h1 h2 => by
        rw [(need_greed HX.out h1 h2).val, HAH.out]
        rfl
      have HRO : Hid (∀ l : List (Int × Int), l.Perm (runsL x S x.n) → (∀ r ∈ l, 1 ≤ r.1 ∧ 0 ≤ r.2) ∧ l.length ≤ 12) := Lib.hid fun l h1 => ⟨fun r hr => runsL_ok HX.out _ (Nat.le_refl _) r (h1.mem_iff.1 hr), by
        have h2 := runsL_len x S x.n
        have h3 : x.n ≤ 6 := HX.out.n6
        rw [h1.length_eq]; omega⟩
      have hmo := HMO.out
      clear HBN2
      generalize sumN x.lo x.sp.length = sl at *
      generalize baseTo x S x.sp.length = sb at *
      obtain ⟨lf, hlf⟩ : ∃ lf, ah - sl = lf := ⟨_, rfl⟩
      rw [hlf] at H5 HNG
      have hlfb : 0 ≤ lf ∧ lf ≤ 6291456 := by omega
      have hz1 := hB.size
      clear hlf
      go_wp2_with (first
        | (go_at_call 51; refine (H51.out _ hB).mono ?_; rintro e w3 ⟨bq, l, rfl, hperm, hsorted, hra, hB3⟩)
        | fail)
      obtain ⟨hbq, hbz, A2, c2, hc2, htw, hAb⟩ := hra
      obtain ⟨hrok, hrl⟩ := HRO.out l hperm
      have HNV := Lib.hid (HNG.out l hperm hsorted)
      have H5w := Lib.hid (H5.out.call hB3)
      have H6w := Lib.hid (H6.out.call hB3)
      have hb3 : RowKit.Below w.heap.size w w3 := hB.trans (hB3.mono hB.size)
      have hz3 : wr.heap.size ≤ w3.heap.size := hB3.size
      have HG := Lib.hid (gst_bd l hrok (lf, sb) (show 0 ≤ lf by omega) (show 0 ≤ sb by omega))
      have HGA := Lib.hid (gst_all l (lf, sb))
      have HROK := Lib.hid hrok
      clear HNG HRO H5 H6 hperm hsorted hrok hB3
      refine (wpIn_wide (n := 9)).1 ?_
      refine wpIn_rangeFunc_ownH (F := Fence.wide) (n := 9) rfl (by decide) (gf := 60) (lb := #[.pointer (some ⟨bq, 0, none⟩)]) rfl trivial (enters_of Try.func60 (by kernel_rfl) rfl)
        (values_stops Fence.wide 8 trivial rfl (by decide) bq w3.heap.size (fun k => k = w.heap.size ∨ k = w.heap.size + 1) A2 c2 l (by omega) w3 ⟨hbz, by omega⟩ (Nat.le_refl _) hc2 htw (fun b off h e => by have := hAb b off h; omega)) frmK_t (frmK_b (Nat.le_refl _)) (RowKit.Below.refl _ _) (fun _ => rfl)
        (fun pre W => Box W w.heap.size [I (gst l (lf, sb) pre).1] ∧ Box W (w.heap.size + 1) [I (gst l (lf, sb) pre).2] ∧ RowKit.Below w.heap.size w W ∧ w3.heap.size ≤ W.heap.size)
        (fun _ _ _ => False)
        (fun pre X Y row hs hg hr => ⟨box_own hs.1 hg (fun r e => (hr r e).2), box_own hs.2.1 hg (fun r e => (hr r e).2), hs.2.2.1.grown hg hs.2.2.1.size (fun k e => by have := (hr k e).1; omega), Nat.le_trans hs.2.2.2 hg.size⟩)
        (fun _ _ _ _ _ hs _ _ => hs)
        ⟨H5w.out, H6w.out, hb3, Nat.le_refl _⟩
        (fun x' a' W => ∃ Ba : Nat, w3.heap.size ≤ Ba ∧ Box W Ba [I l[x'].1, I l[x'].2] ∧ a' = { tmps := #[.pointer (some ⟨P, 0, none⟩), I S, undef, undef, .int .i64 0, .pointer (some ⟨w.heap.size, 0, none⟩), .pointer (some ⟨w.heap.size + 1, 0, none⟩), u7, u8, .pointer (some ⟨Ba, 0, none⟩), undef, .pointer (some ⟨P, 0, none⟩), .pointer (some ⟨P, 0, none⟩), .pointer (some ⟨P, 0, none⟩), .pointer (some ⟨P, 1, none⟩), .pointer (some ⟨P, 2, none⟩), I ah, .pointer (some ⟨P, 0, none⟩), .pointer (some ⟨P, 0, none⟩), .pointer (some ⟨P, 0, none⟩), .pointer (some ⟨P, 0, none⟩), .slice A x.sp.length c, I x.sp.length, I x.sp.length, .bool false, u25, u26, u27, u28, u29, u30, u31, u32, u33, u34, u35, u36, u37, u38, u39, u40, u41, u42, u43, u44, u45, .pointer (some ⟨P, 0, none⟩), I S, .func (.func 60) #[] #[.pointer (some ⟨bq, 0, none⟩)], .agg #[I l[x'].1, I l[x'].2], undef, undef, undef, undef, undef, undef, undef, undef, undef, undef, undef, undef, undef, undef, undef, undef, undef, undef], defers := [] })
        (fun x' a' _ X Y row hs hg hr => by
          obtain ⟨Ba, h1, h2, h3⟩ := hs
          exact ⟨Ba, h1, box_own h2 hg (fun r e => (hr r e).2), h3⟩)
        ?assign ?body ?done ?stop
      case stop =>
        rintro D c pre W _ _ h _
        exact h.elim
      case assign =>
        rintro lp pre x' W K ⟨k1, k2, k3, k4⟩ hK
        dsimp only [encP]
        obtain ⟨r0, hr0⟩ : ∃ r0, l[x'] = r0 := ⟨_, rfl⟩
        rw [hr0] at hK ⊢
        gi_wp2
        exact hK _ _ ((KeepsOthers.alloc _ _).from _) ((Frm.refl _ _ W).alloc k4 _) ⟨k1.alloc _, k2.alloc _, k3.alloc k3.size _, by simp; omega⟩ ⟨W.heap.size, k4, Box.new W _ 87, rfl⟩
      case done =>
        rintro D xs W hD rfl ⟨k1, k2, k3, k4⟩ hK
        rw [HGA.out] at k2
        obtain ⟨x6, _⟩ := k2.at_ 0 _ rfl
        have hzz := k3.size
        go_wp2
        refine ⟨by simp, .inl ⟨_, _, rfl, run_takeDeferred hK, ?_⟩⟩
        have hgr := grownBy_putObj' W D (.deferred none)
        have hBB := k3.grown hgr hzz (fun k e => by injection e with e; omega)
        exact ⟨I (sb + greed l lf), by simp [results, Try.results47, go_sem], by rw [HNV.out], hBB⟩
      case body =>
        rintro lp pre x' a' W hl ⟨r, hr⟩ ⟨k1, k2, k3, k4⟩ ⟨Ba, hBa, bA, rfl⟩ hlt
        have hgp := HG.out pre
        obtain ⟨r1, r2⟩ := HROK.out l[x'] (List.getElem_mem _)
        have HGS := Lib.hid (gst_snoc l (lf, sb) pre x')
        generalize (gst l (lf, sb) pre).1 = left at *
        generalize (gst l (lf, sb) pre).2 = s at *
        obtain ⟨v0, hv0⟩ : ∃ v0, l[x'].1 = v0 := ⟨_, rfl⟩
        obtain ⟨v1, hv1⟩ : ∃ v1, l[x'].2 = v1 := ⟨_, rfl⟩
        rw [hv0] at r1 HGS bA ⊢
        rw [hv1] at r2 HGS bA ⊢
        clear hv0 hv1
        have hst := gst_step (s := 0) hgp.1 r1 r2
        have hdq0 : 0 ≤ left / v0 := Int.ediv_nonneg hgp.1 (by omega)
        have hdq1 : left / v0 ≤ left := Int.ediv_le_self _ hgp.1
        have htd : left.tdiv v0 = left / v0 := Int.tdiv_eq_ediv_of_nonneg hgp.1
        obtain ⟨dq, hdq⟩ : ∃ dq, left / v0 = dq := ⟨_, rfl⟩
        rw [hdq] at HGS hst hdq0 hdq1 htd
        obtain ⟨m, hm⟩ : ∃ m, min v1 dq = m := ⟨_, rfl⟩
        rw [hm] at HGS hst
        obtain ⟨mp, hmp⟩ : ∃ mp, m * v0 = mp := ⟨_, rfl⟩
        rw [hmp] at HGS hst
        have hne0 : ¬ v0 = 0 := by omega
        have hwd : IntKind.i64.wrap dq = dq := IntWalk.i64_in _ (by omega)
        have HDQ := Lib.hid hdq
        have H52 : Hid (∀ (W' : World) (g : Nat), g < W'.heap.size → W'.cell? ⟨g, 0, none⟩ = some (I dq) → Calls Try.prog 52 #[I v1, .slice (some ⟨g, 0, none⟩) 1 1] W' fun e w' => e = .returned (I m) ∧ W' = w') := Lib.hid fun W' g hg hc => by
          have h := least52 v1 (some ⟨g, 0, none⟩) 1 [dq] W' (fun _ => ⟨g, 0, rfl, hg, fun k hk => by
            obtain rfl : k = 0 := by simpa using hk
            simpa using hc⟩) (by simp)
          have e : minTo v1 [dq] [dq].length = m := by rw [← hm]; rfl
          rwa [e] at h
        have HMV := Lib.hid hm
        have HMP := Lib.hid hmp
        clear hdq hm hmp
        have HKA := Lib.hid k1
        have HKB := Lib.hid k2
        have HBA := Lib.hid bA
        obtain ⟨n0, _⟩ := bA.at_ 0 _ rfl
        obtain ⟨n1, _⟩ := bA.at_ 1 _ rfl
        obtain ⟨x5, _⟩ := k1.at_ 0 _ rfl
        have hTa : w.heap.size ≠ w.heap.size + 1 := by omega
        clear k1 k2 bA
        gi_wp2
        show Code.wpIn (Fence.wide.inRound lp) _ _ _ _ _ _
        refine wpIn_region_planR (F := Fence.wide) (Plan.ons [0, 1, 2, 3, 4, 5, 6, 7, 8] .fin) [0, 1] (fun W' => RowKit.Below W.heap.size W W') [] rfl (by kernel_rfl) (by kernel_rfl) (by kernel_rfl) (fun _ _ _ _ _ h => h) (RowKit.Below.refl _ _).drew ?_
        (refine ordQ_held (.pointer (some ⟨Ba, 1, none⟩)) rfl rfl rfl rfl (fun W' hC' => ?_) (fun K hK => ?_); (focus (obtain _ := n1; go_simp; try exact ⟨rfl, rfl⟩)); go_simp; refine hK _ ?_; clear hK K)
        (refine ordQ_held (I v1) rfl rfl rfl rfl (fun W' hC' => ?_) (fun K hK => ?_); (focus (obtain ⟨g0, _⟩ := (HBA.out.call hC').at_ 1 _ rfl; go_simp; try exact ⟨rfl, rfl⟩)); go_simp; refine hK _ ?_; clear hK K)
        iterate 4 (refine ordQ_li rfl rfl rfl (fun K hK => ?_); go_simp; refine hK _ ?_; clear hK K)
        refine ordQ_hv rfl rfl rfl (fun K hK => ?_)
        gi_wp2
        refine hK _ _ (fun _ => ((RowKit.Below.refl _ W).alloc (Nat.le_refl _) _).drew) ?_
        clear hK K
        refine ordQ_hv rfl rfl rfl (fun K hK => ?_)
        gi_wp2_with (refine And.intro trivial ?_; gi_at_call 52; refine callsIn_wide.2 ((H52.out _ _ (by simp) (by simp [go_sem])).mono ?_); rintro e w5 ⟨rfl, rfl⟩)
        refine hK _ _ (fun _ => ((RowKit.Below.refl _ W).alloc (Nat.le_refl _) _).drew) ?_
        clear hK K
        (refine ordQ_li rfl rfl rfl (fun K hK => ?_); go_simp; refine hK _ ?_; clear hK K)
        refine ordQ_fin ?_
        have hb5 : RowKit.Below W.heap.size W (W.alloc (.cells #[I dq] 3)).drew := ((RowKit.Below.refl _ W).alloc (Nat.le_refl _) _).drew
        have HK5 : Hid (KeepsOthers W (W.alloc (.cells #[I dq] 3)).drew) := Lib.hid ((KeepsOthers.alloc W (.cells #[I dq] 3)).trans ⟨Nat.le_refl _, fun _ _ h _ => h⟩)
        have HKA2 := HKA.out.call hb5
        have HKB2 := HKB.out.call hb5
        have HBA2 := HBA.out.call hb5
        have hz5 : W.heap.size ≤ (W.alloc (.cells #[I dq] 3)).drew.heap.size := hb5.size
        generalize (W.alloc (.cells #[I dq] 3)).drew = W5 at *
        obtain ⟨x5', y5⟩ := HKA2.at_ 0 _ rfl
        obtain ⟨x6', y6⟩ := HKB2.at_ 0 _ rfl
        obtain ⟨n0', _⟩ := HBA2.at_ 0 _ rfl
        have hw1 : IntKind.i64.wrap (s + m) = s + m := IntWalk.i64_in _ (by omega)
        have hw2 : IntKind.i64.wrap (m * v0) = mp := by rw [HMP.out]; exact IntWalk.i64_in _ (by omega)
        have hw3 : IntKind.i64.wrap (left - mp) = left - mp := IntWalk.i64_in _ (by omega)
        have HX6 := Lib.hid (HKB2.set 0 (I (s + m)))
        have HX5 := Lib.hid (HKA2.far (p := ⟨w.heap.size + 1, 0, none⟩) (by simp) (I (s + m)))
        have HY5 := Lib.hid (HX5.out.set 0 (I (left - mp)))
        have HY6 := Lib.hid (HX6.out.far (p := ⟨w.heap.size, 0, none⟩) (by simp) (I (left - mp)))
        have HKF : Hid (KeepsFrom w3.heap.size W ((W5.setCell ⟨w.heap.size + 1, 0, none⟩ (I (s + m))).setCell ⟨w.heap.size, 0, none⟩ (I (left - mp)))) := Lib.hid ((HK5.out.trans ((KeepsOthers.setCell _ _ _).trans (KeepsOthers.setCell _ _ _))).from _)
        have HFR : Hid (Frm w3.heap.size (fun k => k = w.heap.size ∨ k = w.heap.size + 1) W ((W5.setCell ⟨w.heap.size + 1, 0, none⟩ (I (s + m))).setCell ⟨w.heap.size, 0, none⟩ (I (left - mp)))) := Lib.hid (((Frm.of_below hb5 k4).setCell (p := ⟨w.heap.size + 1, 0, none⟩) (.inr (.inr rfl)) _).setCell (p := ⟨w.heap.size, 0, none⟩) (.inr (.inl rfl)) _)
        have HBB : Hid (RowKit.Below w.heap.size w ((W5.setCell ⟨w.heap.size + 1, 0, none⟩ (I (s + m))).setCell ⟨w.heap.size, 0, none⟩ (I (left - mp)))) := Lib.hid (((k3.trans (hb5.mono k3.size)).setCell (p := ⟨w.heap.size + 1, 0, none⟩) (by simp) _).setCell (p := ⟨w.heap.size, 0, none⟩) (by simp) _)
        have hzf : w3.heap.size ≤ ((W5.setCell ⟨w.heap.size + 1, 0, none⟩ (I (s + m))).setCell ⟨w.heap.size, 0, none⟩ (I (left - mp))).heap.size := by simp; omega
        gi_wp2
        exact ⟨HKF.out, HFR.out, by rw [HGS.out]; exact HY5.out, by rw [HGS.out]; exact HY6.out, HBB.out, hzf⟩
end Go.Proofs.Ytfebhofihioaoaa
