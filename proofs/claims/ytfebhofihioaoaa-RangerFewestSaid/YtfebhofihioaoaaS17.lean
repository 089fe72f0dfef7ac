/- The runs of a set, in order, of the program. -/
import Derived.Test.YtfebhofihioaoaaS16
import Derived.Test.YtfebhofihioaoaaS9
import Derived.Test.YtfebhofihioaoaaS7
namespace Go.Proofs.Ytfebhofihioaoaa
set_option linter.unusedVariables false
set_option linter.unusedSimpArgs false
open Go Go.RowKit

theorem info87 : (Try.prog.info? 87).map (fun i => (i.zero, i.size, i.bytes)) = some (some (.agg #[I 0, I 0]), 2, 16) := by kernel_rfl
def flat2 (cr : List (Int × Int)) : List Value := cr.flatMap fun s => [I s.1, I s.2]
theorem flat2_len : ∀ cr : List (Int × Int), (flat2 cr).length = cr.length * 2
  | [] => rfl
  | s :: cr => by
    have := flat2_len cr
    simp only [flat2, List.flatMap_cons, List.length_append, List.length_cons, List.length_nil] at this ⊢
    omega
theorem flat2_app (a b : List (Int × Int)) : flat2 (a ++ b) = flat2 a ++ flat2 b := by simp [flat2]
theorem flat2_get : ∀ (cr : List (Int × Int)) (k : Nat) (h : k < cr.length), (flat2 cr)[k * 2]? = some (I cr[k].1) ∧ (flat2 cr)[k * 2 + 1]? = some (I cr[k].2)
  | [], k, h => by simp at h
  | s :: cr, 0, _ => by simp [flat2]
  | s :: cr, k + 1, h => by
    have ih := flat2_get cr k (by simpa using h)
    have e1 : (k + 1) * 2 = k * 2 + 2 := by omega
    rw [e1]
    have e2 : flat2 (s :: cr) = I s.1 :: I s.2 :: flat2 cr := by simp [flat2]
    rw [e2]
    simpa using ih
/-- A row of pairs below block B. -/
def Twos (w : World) (B : Nat) (A : Option Addr) (xs : List (Int × Int)) : Prop :=
  0 < xs.length → ∃ b off, A = some ⟨b, off, none⟩ ∧ b < B ∧ ∀ k (h : k < xs.length), w.cell? ⟨b, off + k * 2, none⟩ = some (I xs[k].1) ∧ w.cell? ⟨b, off + k * 2 + 1, none⟩ = some (I xs[k].2)
section
variable {w w' : World} {B B' : Nat} {A : Option Addr} {xs : List (Int × Int)}
theorem Twos.keep (h : Twos w B A xs) (hk : ∀ p : Addr, p.block < B → w'.cell? p = w.cell? p) : Twos w' B A xs := fun h0 => by
  obtain ⟨b, off, hA, hb, hc⟩ := h h0
  exact ⟨b, off, hA, hb, fun k hk' => ⟨(hk _ hb).trans (hc k hk').1, (hk _ hb).trans (hc k hk').2⟩⟩
theorem Twos.more (h : Twos w B A xs) (hB : B ≤ B') : Twos w B' A xs := fun h0 => by
  obtain ⟨b, off, hA, hb, hc⟩ := h h0
  exact ⟨b, off, hA, by omega, hc⟩
theorem Twos.below (h : Twos w B A xs) (hb : Below B w w') : Twos w' B A xs := h.keep fun _ hp => hb.cell hp
end
/-- What the sort does to a row of runs of one's own. -/
def SortIs : Prop := ∀ (base : Nat) (A : Option Addr) (c : Nat) (l : List (Int × Int)) (W : World), W.ownsRow base 87 2 (.slice A l.length c) l.length (flat2 l) → base ≤ W.heap.size → l.length ≤ 1000 →
  Calls Try.prog 53 #[.slice A l.length c, .func (.func 54) #[] #[]] W fun e w' => e = .returned (.tuple #[]) ∧ ∃ l' : List (Int × Int), l'.Perm l ∧ l'.Pairwise (fun a b => a.1 ≤ b.1) ∧ Twos w' w'.heap.size A l' ∧ Below base W w'
theorem runsL_len (x : Prk) (S : Nat) : ∀ k, (runsL x S k).length ≤ 2 * k
  | 0 => Nat.le_refl _
  | k + 1 => by
    have := runsL_len x S k
    simp only [runsL, List.length_append]
    have h : (if S.testBit k then runS (x.ho k) (x.lo k) (x.hi k) else []).length ≤ 2 := by
      split
      · unfold runS; split <;> simp
      · simp
    omega
theorem own_form2 {w : World} {base n : Nat} {e : TypeId} {v : Value} {xs : List Value} {size : Nat} (h : w.ownsRow base e size v n xs) :
    (v = .slice none 0 0 ∧ n = 0) ∨ ∃ g cap, v = .slice (some ⟨g, 0, none⟩) n cap ∧ base ≤ g ∧ g < w.heap.size := by
  rcases h.2 with h1 | ⟨g, cap, cur, rfl, hb, hc, h3, h4, _⟩
  · exact .inl ⟨h1.1, h1.2⟩
  · exact .inr ⟨g, cap, rfl, (h.lt g rfl).1, (h.lt g rfl).2⟩
theorem cells4 (w : World) (a b c d : Value) (t : TypeId) : ∀ j u, [a, b, c, d][j]? = some u → (w.alloc (.cells #[a, b, c, d] t)).cell? ((⟨w.heap.size, 0, none⟩ : Addr).add j) = some u := fun j u hj => by
  rcases j with _ | _ | _ | _ | j
  all_goals (simp at hj; try (subst hj; simp [Addr.add, go_sem]))
/-- The iterator over the runs: its row, in order. -/
def RunsAt (W : World) (B bq : Nat) (l : List (Int × Int)) : Prop := B ≤ bq ∧ bq < W.heap.size ∧ ∃ A c, W.cell? ⟨bq, 0, none⟩ = some (.slice A l.length c) ∧ Twos W W.heap.size A l ∧ ∀ b off, A = some ⟨b, off, none⟩ → B ≤ b
theorem values56 (A : Option Addr) (n c : Nat) (w : World) : Calls Try.prog 56 #[.slice A n c] w fun e w' => e = .returned (.func (.func 60) #[] #[.pointer (some ⟨w.heap.size, 0, none⟩)]) ∧ w' = w.alloc (.cells #[.slice A n c] 89) := by
  go_enter Try.func56, Try.ntmps56
  go_wp2
  refine bodyPost_ret (v := .func (.func 60) #[] #[.pointer (some ⟨w.heap.size, 0, none⟩)]) (by simp [results, Try.results56, go_sem]) rfl ⟨rfl, rfl⟩
set_option maxRecDepth 100000 in
set_option maxHeartbeats 8000000 in
theorem runs51_of (hsort : SortIs) (x : Prk) (P : Nat) (A : Option Addr) (c : Nat) (v0 : Value) (S : Nat) (w : World) (hx : PrkOk x) (hP : ParkAt w P x A c v0) (hS : S < 64) :
    Calls Try.prog 51 #[.pointer (some ⟨P, 0, none⟩), I S] w fun e w' => ∃ (bq : Nat) (l : List (Int × Int)), e = .returned (.func (.func 60) #[] #[.pointer (some ⟨bq, 0, none⟩)]) ∧ l.Perm (runsL x S x.n) ∧ l.Pairwise (fun a b => a.1 ≤ b.1) ∧ RunsAt w' w.heap.size bq l ∧ Below w.heap.size w w' := by
  have HX := Lib.hid hx
  have hn6 : x.sp.length ≤ 6 := hx.n6
  obtain ⟨i0, hi0, hi1, hi2, hi3⟩ := info_parts info87
  have HI0 := Lib.hid hi0; have HI1 := Lib.hid hi1; have HI2 := Lib.hid hi2; have HI3 := Lib.hid hi3
  have hu : Try.prog.underlying 89 = some (.slice 87) := Try.underlying89
  have HU := Lib.hid hu
  have HLO : Hid (∀ k (h : k < x.sp.length), x.sp[k].1 = x.lo k ∧ x.sp[k].2.1 = x.hi k ∧ x.sp[k].2.2.1 = x.ho k ∧ x.sp[k].2.2.2 = x.ne k) := Lib.hid fun k h => by simp [Prk.lo, Prk.hi, Prk.ho, Prk.ne, List.getD, h]
  have HPA := Lib.hid hP
  have HSORT := Lib.hid hsort
  have HRL := Lib.hid (runsL_len x S)
  have HIB : Hid (∀ W, Below w.heap.size w W → ∀ k, k < x.sp.length → ∃ ab ao, A = some ⟨ab, ao, none⟩ ∧ ab < w.heap.size ∧ W.cell? ⟨ab, ao + k * 4, none⟩ = some (I (x.lo k)) ∧ W.cell? ⟨ab, ao + k * 4 + 1, none⟩ = some (I (x.hi k)) ∧ W.cell? ⟨ab, ao + k * 4 + 2, none⟩ = some (I (x.ho k)) ∧ W.cell? ⟨ab, ao + k * 4 + 3, none⟩ = some (I (x.ne k))) := Lib.hid fun W hW k hk => by
    obtain ⟨ab, ao, hAe, haz, hac⟩ := (HPA.out.row.below hW) (by omega)
    obtain ⟨a0, a1, a2, a3⟩ := hac k hk
    obtain ⟨e0, e1, e2, e3⟩ := HLO.out k hk
    rw [e0] at a0
    rw [e1] at a1
    rw [e2] at a2
    rw [e3] at a3
    exact ⟨ab, ao, hAe, haz, a0, a1, a2, a3⟩
  have HPC : Hid (∀ W, Below w.heap.size w W → W.cell? ⟨P, 0, none⟩ = some (.slice A x.sp.length c)) := Lib.hid fun W hW => (HPA.out.call hW).sp
  have hPz := hP.lt
  clear hP hx hsort hi0 hi1 hi2 hi3 hu
  have c0 := HPC.out w (Below.refl _ _)
  go_enter Try.func51, Try.ntmps51
  go_wp2_with (fail)
  clear c0
  go_loopw [5, 15] (fun s5 s15 wr => ∃ (k : Nat) (v5 : Value), k ≤ x.sp.length ∧ s15 = I k ∧ v5 = s5 ∧ Below w.heap.size w wr ∧ Hid (wr.ownsRow w.heap.size 87 2 v5 (runsL x S k).length (flat2 (runsL x S k)))) (fun _ s _ => x.sp.length - (intOf s).toNat)
  case atStart => exact ⟨0, _, by omega, rfl, rfl, Below.refl _ _, Lib.hid (by simpa [runsL, flat2] using World.ownsRow_nil w w.heap.size 87 2)⟩
  case round =>
    obtain ⟨k, v5, hk, rfl, rfl, hB, HO⟩ := hrel
    have hzr := hB.size
    have hrl := HRL.out k
    by_cases hlt : k < x.sp.length
    · obtain ⟨ab, ao, hAe, haz, a0, a1, a2, a3⟩ := HIB.out _ hB k hlt
      subst hAe
      have c0 := HPC.out _ hB
      have hpk := HX.out.peo k hlt
      obtain ⟨ho1, ho2⟩ := HX.out.hold k hlt
      have hfb := first_bd (h := x.ho k) (lo := x.lo k) ho1
      have HFD : Hid (firstS (x.ho k) (x.lo k) = need1 (x.ho k) (x.lo k) * x.ho k + 1 - x.lo k) := Lib.hid rfl
      have hnb := need1_bd (h := x.ho k) (p := x.lo k) ho1 (by omega)
      have HRN : Hid (runsL x S (k + 1) = runsL x S k ++ if S.testBit k then runS (x.ho k) (x.lo k) (x.hi k) else []) := Lib.hid rfl
      have HRS : Hid (runS (x.ho k) (x.lo k) (x.hi k) = if firstS (x.ho k) (x.lo k) ≤ x.hi k - x.lo k then [(firstS (x.ho k) (x.lo k), 1), (x.ho k, (x.hi k - x.lo k - firstS (x.ho k) (x.lo k)) / x.ho k)] else []) := Lib.hid rfl
      have H38 : Hid (∀ W : World, Calls Try.prog 38 #[.agg #[I (x.lo k), I (x.hi k), I (x.ho k), I (x.ne k)], I (x.lo k)] W fun e w' => e = .returned (I (need1 (x.ho k) (x.lo k))) ∧ Below W.heap.size W w') := Lib.hid fun W => need38 _ _ _ _ _ W ho1 ho2 (by omega) (by omega)
      obtain ⟨hb1, hb2⟩ := bit_step (k := k) hS
      generalize runS (x.ho k) (x.lo k) (x.hi k) = rs at *
      generalize firstS (x.ho k) (x.lo k) = f at *
      generalize need1 (x.ho k) (x.lo k) = q at *
      generalize x.lo k = lo at *
      generalize x.hi k = hi at *
      generalize x.ho k = ho at *
      generalize x.ne k = ne at *
      obtain ⟨bt, hbt⟩ : ∃ b, S.testBit k = b := ⟨_, rfl⟩
      rw [hbt] at hb2 HRN
      generalize S / 2 ^ k = sq at *
      clear hbt
      have p0 : (0 : Int) ≤ (k : Int) := by omega
      have p1 : (k : Int) < (x.sp.length : Int) := by omega
      have p3 : (k : Int) ≤ 64 := by omega
      obtain ⟨pr, hpr⟩ : ∃ pr, q * ho = pr := ⟨_, rfl⟩
      have HBa : Hid (Below wr.heap.size wr (wr.alloc (.cells #[I lo, I hi, I ho, I ne] 48))) := Lib.hid (below1 _ _)
      have HXa : Hid (Box (wr.alloc (.cells #[I lo, I hi, I ho, I ne] 48)) wr.heap.size [I lo, I hi, I ho, I ne]) := Lib.hid (Box.new wr [I lo, I hi, I ho, I ne] 48)
      have hBa2 : Below w.heap.size w (wr.alloc (.cells #[I lo, I hi, I ho, I ne] 48)) := hB.alloc hzr _
      have HO1 := Lib.hid (HO.out.alloc (.cells #[I lo, I hi, I ho, I ne] 48))
      clear HO
      cases bt
      · have HE : Hid (runsL x S (k + 1) = runsL x S k) := Lib.hid (by rw [HRN.out]; simp)
        simp only [if_false, Bool.false_eq_true] at hb2
        clear HRN HRS hpr
        go_wp2_with (fail)
        go_roundw
        case rel => first | exact ⟨k + 1, v5, by omega, by go_num, rfl, hBa2, by rw [HE.out]; exact HO1⟩ | ((repeat apply Exists.intro); refine ⟨?_, rfl⟩; exact ⟨k + 1, v5, by omega, by go_num, rfl, hBa2, by rw [HE.out]; exact HO1⟩)
        case measure => first | (simp [intOf]; done) | (simp [intOf]; omega)
      · simp only [if_true] at hb2
        have hf := HFD.out
        rw [hpr] at hf
        have hwm : IntKind.i64.wrap (q * ho) = pr := by rw [hpr]; exact IntWalk.i64_in _ (by omega)
        obtain ⟨fi, hfi⟩ : ∃ fi, pr + 1 = fi := ⟨_, rfl⟩
        have hwa : IntKind.i64.wrap fi = fi := IntWalk.i64_in _ (by omega)
        have HPR := Lib.hid hpr
        have hff : f = fi - lo := by omega
        have hfl : 1 ≤ fi ∧ fi ≤ 2097152 := by omega
        clear hpr hf
        subst hff
        go_wp2_with (fail)
        clear a0 a1 a2 a3 c0
        obtain ⟨T5, hT5⟩ : ∃ T5, T5 = wr.heap.size := ⟨_, rfl⟩
        rw [← hT5] at HXa HBa ⊢
        have hT5z : T5 < (wr.alloc (.cells #[I lo, I hi, I ho, I ne] 48)).heap.size := HXa.out.1
        clear hT5
        generalize wr.alloc (.cells #[I lo, I hi, I ho, I ne] 48) = wb at *
        have HCX : Hid (∀ W, Below wb.heap.size wb W → W.cell? ⟨T5, 0, none⟩ = some (I lo) ∧ W.cell? ⟨T5, 1, none⟩ = some (I hi) ∧ W.cell? ⟨T5, 2, none⟩ = some (I ho) ∧ W.cell? ⟨T5, 3, none⟩ = some (I ne)) := Lib.hid fun W hW =>
          ⟨((HXa.out.call hW).at_ 0 _ rfl).1, ((HXa.out.call hW).at_ 1 _ rfl).1, ((HXa.out.call hW).at_ 2 _ rfl).1, ((HXa.out.call hW).at_ 3 _ rfl).1⟩
        refine (wpIn_wide (n := 9)).1 ?_
        refine wpIn_region_valsB [some 25, some 26, some 27, some 28, some 29, some 30, some 31, some 32, some 33, some 8]
          (nthV [.agg #[I lo, I hi, I ho, I ne], .pointer (some ⟨T5, 0, none⟩), .pointer (some ⟨T5, 0, none⟩), I lo, I q, .pointer (some ⟨T5, 2, none⟩), I ho, I pr, I fi, I fi])
          [(7, .pointer (some ⟨T5, 0, none⟩))]
          (fun W => Below wb.heap.size wb W) rfl (by kernel_rfl) (fun _ => trivial) (by kernel_rfl) (by kernel_rfl) (by kernel_rfl) ⟨rfl, trivial⟩ (fun _ d _ _ _ h => by cases d <;> exact h) (Below.refl _ _).drew ?_ ?_
        · refine ⟨?_, ?_, ?_, ?_, ?_, ?_, ?_, ?_, ?_, ?_, trivial⟩
          all_goals (intro x0 W hC; obtain ⟨n0, n1, n2, n3⟩ := HCX.out _ hC)
          all_goals first
            | (refine e_no rfl ?_; rfl)
            | (refine e_yes rfl ?_; intro b e hb K hK)
          all_goals first
            | (refine opE_li rfl hb ?_; simp only [execOp, resolve, Oper.about, envB, lookB, lookV, nthV, List.map_toArray, List.map_cons, List.map_nil, Nat.reduceEqDiff, reduceIte, Nat.succ_ne_zero, Nat.zero_ne_one, Nat.one_ne_zero, Nat.reduceAdd, Nat.zero_add]; go_simp; exact hK _ hC)
            | (refine opE_call rfl hb (fun _ => trivial) (fun h => (by cases h)) 38 #[.agg #[I lo, I hi, I ho, I ne], I lo] ?_ ?_
               · (simp only [execOp, resolve, Oper.about, envB, lookB, lookV, nthV, List.map_toArray, List.map_cons, List.map_nil, Nat.reduceEqDiff, reduceIte, Nat.succ_ne_zero, Nat.zero_ne_one, Nat.one_ne_zero, Nat.reduceAdd, Nat.zero_add])
                 go_simp
               · refine callsIn_wide.2 ((H38.out _).mono ?_)
                 rintro e w6 ⟨rfl, hB6⟩
                 exact ⟨_, rfl, hK _ (hC.trans (hB6.mono hC.size))⟩)
        · (intro W hC; have HC := Lib.hid hC; clear hC; simp only [putD, nthV, Act.put, List.setIfInBounds_toArray, List.set_cons_succ, List.set_cons_zero, Nat.zero_add, Nat.reduceAdd])
          have hCo := HC.out
          clear HC H38
          obtain ⟨n0, n1, n2, n3⟩ := HCX.out _ hCo
          have HO2 := Lib.hid (grown_own HO1.out hCo)
          have hB3 : Below w.heap.size w W := hBa2.trans (hCo.mono hBa2.size)
          have hz3 := hB3.size
          by_cases hle : fi ≤ hi
          · have HN : Hid (runsL x S (k + 1) = runsL x S k ++ [(fi - lo, 1), (ho, (hi - fi) / ho)]) := Lib.hid (by
              rw [HRN.out, HRS.out]
              first | rw [if_pos rfl] | rw [if_pos trivial]
              rw [if_pos (by omega)]
              rw [show hi - lo - (fi - lo) = hi - fi by omega])
            have hdv : 0 ≤ (hi - fi) / ho ∧ (hi - fi) / ho ≤ 1048576 := ⟨Int.ediv_nonneg (by omega) (by omega), Int.le_trans (Int.ediv_le_self _ (by omega)) (by omega)⟩
            obtain ⟨dq, hdq⟩ : ∃ dq, (hi - fi) / ho = dq := ⟨_, rfl⟩
            rw [hdq] at HN hdv
            have hwd : IntKind.i64.wrap dq = dq := IntWalk.i64_in _ (by omega)
            have hws : IntKind.i64.wrap (fi - lo) = fi - lo := IntWalk.i64_in _ (by omega)
            have hwt : IntKind.i64.wrap (hi - fi) = hi - fi := IntWalk.i64_in _ (by omega)
            have htd : (hi - fi).tdiv ho = dq := by rw [Int.tdiv_eq_ediv_of_nonneg (by omega)]; exact hdq
            have hne0 : ¬ ho = 0 := by omega
            have HDQ := Lib.hid hdq
            clear hdq
            have HBX : Hid (Box W T5 [I lo, I hi, I ho, I ne]) := Lib.hid (HXa.out.call hCo)
            clear HRN HRS
            go_wp2_with (fail)
            refine (wpIn_wide (n := 9)).1 ?_
            refine wpIn_region_plan (Plan.ons [0, 1, 2, 3, 4, 5, 6, 7, 8, 9, 10, 11, 12, 13, 14, 15, 16, 17, 18, 19, 20] .fin) [0] (fun W' => True) [] rfl (by kernel_rfl) (by kernel_rfl) (fun _ d _ _ _ h => by cases d <;> exact h) trivial ?_
            (refine ordQ_held (v5) rfl rfl rfl rfl (fun W' hC' => ?_) (fun K hK => ?_); (focus (obtain _ := hC'; go_simp; try exact ⟨rfl, rfl⟩)); go_simp; refine hK _ ?_; clear hK K)
            iterate 17 (refine ordQ_li rfl rfl rfl (fun K hK => ?_); go_simp; refine hK _ ?_; clear hK K)
            refine ordQ_hv rfl rfl rfl (fun K hK => ?_)
            gi_wp2
            refine hK _ _ (fun _ => trivial) ?_
            clear hK K
            refine ordQ_hv rfl rfl rfl (fun K hK => ?_)
            refine opIn_append_own rfl _ _ _ 89 rfl w.heap.size 87 i0 (.agg #[I 0, I 0]) 2 16 HU.out HI0.out HI1.out HI2.out HI3.out rfl (by decide) v5 (runsL x S k).length _ rfl ((HO2.out.alloc (.cells #[I (fi - lo), I 1, I ho, I dq] 87))) ⟨W.heap.size, 0, none⟩ 2 2 [I (fi - lo), I 1, I ho, I dq] rfl rfl (cells4 _ _ _ _ _ _) (by simp [Value.oneCell']) (by unfold maxLen; omega) (by omega) (by simp; omega) ?_
            intro v' w6 hown' hgrow _
            have HO6 : Hid (w6.ownsRow w.heap.size 87 2 v' (runsL x S (k + 1)).length (flat2 (runsL x S (k + 1)))) := Lib.hid (by
              rw [HN.out, flat2_app, List.length_append]
              exact hown')
            have hB6 : Below w.heap.size w w6 := (((hB3.alloc hz3 (.cells #[I (fi - lo), I 1, I ho, I dq] 87))).drew).grown hgrow (by simp; omega) (fun g e => (HO2.out.lt g e).1)
            refine hK _ _ (fun _ => trivial) ?_
            clear hK K hown' hgrow
            (refine ordQ_li rfl rfl rfl (fun K hK => ?_); go_simp; refine hK _ ?_; clear hK K)
            refine ordQ_fin ?_
            go_wp2_with (fail)
            go_roundw
            case rel => first | exact ⟨k + 1, v', by omega, by go_num, rfl, hB6, HO6⟩ | ((repeat apply Exists.intro); refine ⟨?_, rfl⟩; exact ⟨k + 1, v', by omega, by go_num, rfl, hB6, HO6⟩)
            case measure => first | (simp [intOf]; done) | (simp [intOf]; omega)
          · have HE : Hid (runsL x S (k + 1) = runsL x S k) := Lib.hid (by rw [HRN.out, HRS.out]; (first | rw [if_pos rfl] | rw [if_pos trivial]); rw [if_neg (by omega)]; simp)
            clear HRN HRS
            go_wp2_with (fail)
            go_roundw
            case rel => first | exact ⟨k + 1, v5, by omega, by go_num, rfl, hB3, by rw [HE.out]; exact HO2⟩ | ((repeat apply Exists.intro); refine ⟨?_, rfl⟩; exact ⟨k + 1, v5, by omega, by go_num, rfl, hB3, by rw [HE.out]; exact HO2⟩)
            case measure => first | (simp [intOf]; done) | (simp [intOf]; omega)
    · obtain rfl : k = x.sp.length := by omega
      obtain ⟨gA, gc, hv5⟩ : ∃ gA gc, v5 = .slice gA (runsL x S x.sp.length).length gc := by
        rcases own_form2 HO.out with ⟨h1, h2⟩ | ⟨g, cap, h1, _⟩
        · exact ⟨none, 0, by rw [h1, h2]⟩
        · exact ⟨_, _, h1⟩
      have HGB : Hid (∀ b off, gA = some ⟨b, off, none⟩ → w.heap.size ≤ b) := Lib.hid fun b off h => by
        rcases own_form2 HO.out with ⟨h1, h2⟩ | ⟨g, cap, h1, h2, _⟩
        · rw [hv5] at h1; injection h1 with h1; rw [h1] at h; cases h
        · rw [hv5] at h1; injection h1 with h1; rw [h1] at h; injection h with h; injection h with h _ _; omega
      subst hv5
      have HS53 := Lib.hid (HSORT.out w.heap.size gA gc (runsL x S x.sp.length) wr HO.out hzr (by omega))
      generalize hrr : runsL x S x.sp.length = rl at *
      have HRR := Lib.hid hrr
      clear hrr HO
      go_wp2_with (first
        | (go_at_call 53; refine HS53.out.mono ?_; rintro e w2 ⟨rfl, l', hperm, hsorted, htw, hB2⟩)
        | (go_at_call 56; refine (values56 _ _ _ _).mono ?_; rintro e w3 ⟨rfl, rfl⟩)
        | fail)
      refine bodyPost_ret (v := .func (.func 60) #[] #[.pointer (some ⟨w2.heap.size, 0, none⟩)]) (by simp [results, Try.results51, go_sem]) rfl ⟨w2.heap.size, l', rfl, by rw [← show runsL x S x.n = rl from HRR.out] at hperm; exact hperm, hsorted, ⟨by have := (hB.trans hB2).size; omega, by simp, gA, gc, by rw [hperm.length_eq]; simp [go_sem], (htw.below (below1 _ _)).more (by simp), HGB.out⟩, ?_⟩
      have hB3 := hB.trans hB2
      exact hB3.alloc hB3.size _
end Go.Proofs.Ytfebhofihioaoaa
