/- What is lacking, of the document. -/
import Derived.Test.YtfebhofihioaoaaS10
namespace Go.Proofs.Ytfebhofihioaoaa
set_option linter.unusedVariables false
set_option linter.unusedSimpArgs false
open Go Go.RowKit

theorem needV_bd {x : Prk} (hx : PrkOk x) (S : Nat) : 0 ≤ needV x S ∧ needV x S ≤ 6291456 := by
  refine ⟨needV_nonneg hx (allNeed hx) S, ?_⟩
  obtain ⟨⟨c, hc, hv⟩, _⟩ := need_is (allNeed hx) S
  rw [← hv]
  have h1 : needC x S c ≤ sumN c x.n := sumN_le fun i hi => by
    have h2 := hx.peo i hi
    have h3 := hc.1 i hi
    have h4 := need1_bd (h := x.ho i) (p := c i) (hx.hold i hi).1 (by omega)
    split <;> omega
  have h5 := hc.2
  have h6 := hx.all
  omega
theorem pow_nat {n : Nat} (h : n ≤ 6) : ∃ N : Nat, N = 2 ^ n ∧ (2 : Int) ^ n = (N : Int) ∧ 1 ≤ N ∧ N ≤ 64 := by
  have h1 : (2 : Nat) ^ n ≤ 2 ^ 6 := Nat.pow_le_pow_right (by decide) h
  have h2 : 0 < (2 : Nat) ^ n := Nat.two_pow_pos n
  exact ⟨_, rfl, by simp, h2, h1⟩
set_option maxRecDepth 100000 in
set_option maxHeartbeats 4000000 in
theorem lacking40_of (x : Prk) (A B : Option Addr) (c d : Nat) (l : List Int) (w : World) (hx : PrkOk x) (hA : Fours w w.heap.size A x.sp) (hl : Ints w w.heap.size B l) (hlx : l.length = x.n)
    (hp : ∀ i, i < x.n → 0 ≤ crF l i ∧ crF l i ≤ 12)
    (h34 : ∀ (k : Nat) (W : World), k < 64 → Fours W W.heap.size A x.sp → Calls Try.prog 34 #[x.val A c, I k] W fun e w' => e = .returned (I (needV x k)) ∧ Below W.heap.size W w') :
    Calls Try.prog 40 #[x.val A c, .slice B l.length d] w fun e w' =>
      e = .returned (.tuple #[I ((lackTo (needV x) (forX x (crF l)) (2 ^ x.n)).1 : Nat), I (lackTo (needV x) (forX x (crF l)) (2 ^ x.n)).2]) ∧ Below w.heap.size w w' := by
  have HA := Lib.hid hA
  have HL := Lib.hid hl
  have hn6 : x.sp.length ≤ 6 := hx.n6
  obtain ⟨N, hN, hNI, hN1, hN2⟩ := pow_nat hx.n6
  have HFB : Hid (∀ S, 0 ≤ forX x (crF l) S ∧ forX x (crF l) S ≤ 72) := Lib.hid (forX_bd hx hp)
  have HNB : Hid (∀ S, 0 ≤ needV x S ∧ needV x S ≤ 6291456) := Lib.hid (needV_bd hx)
  have HLL := Lib.hid (lack_le (needV x) (forX x (crF l)))
  have HS : Hid (∀ k, lackTo (needV x) (forX x (crF l)) (k + 1) = if 0 < needV x k - forX x (crF l) k ∧ ((lackTo (needV x) (forX x (crF l)) k).1 = 0 ∨ countN k < countN (lackTo (needV x) (forX x (crF l)) k).1) then (k, needV x k - forX x (crF l) k) else lackTo (needV x) (forX x (crF l)) k) := Lib.hid fun k => rfl
  have H1 : Hid (lackTo (needV x) (forX x (crF l)) 1 = (0, 0)) := Lib.hid (by
    rw [HS.out 0, needV_zero (allNeed hx), forX_zero]
    rfl)
  have HC34 : Hid (∀ (k : Nat) (W : World), k < 64 → Fours W W.heap.size A x.sp → Calls Try.prog 34 #[.agg #[.slice A x.sp.length c, I x.alo, I x.ahi], I k] W fun e w' => e = .returned (I (needV x k)) ∧ Below W.heap.size W w') := Lib.hid h34
  have HC26 : Hid (∀ (k : Nat) (W : World), k < 64 → Fours W W.heap.size A x.sp → Ints W W.heap.size B l → Calls Try.prog 26 #[.agg #[.slice A x.sp.length c, I x.alo, I x.ahi], .slice B l.length d, I k] W fun e w' => e = .returned (I (forX x (crF l) k)) ∧ Below W.heap.size W w') := Lib.hid fun k W hk h1 h2 => for26 x A B c d l k W hx h1 h2 hlx hp hk
  have H33 : Hid (∀ W : World, Calls Try.prog 33 #[.agg #[.slice A x.sp.length c, I x.alo, I x.ahi]] W fun e w' => e = .returned (I N) ∧ Below W.heap.size W w') := Lib.hid fun W => by
    have := sets33 x A c W (by omega)
    rwa [show (2 : Int) ^ x.sp.length = (N : Int) from hNI] at this
  have H50 : Hid (∀ (k : Nat) (W : World), k < 64 → Calls Try.prog 50 #[I k] W fun e w' => e = .returned (I (countN k)) ∧ W = w') := Lib.hid fun k W hk => count50 k W hk
  rw [← hN]
  clear hA hl hx hp hlx h34 hN hNI
  simp only [Prk.val]
  generalize forX x (crF l) = fo at *
  generalize needV x = nd at *
  generalize lackTo nd fo = la at *
  generalize x.alo = al at *
  generalize x.ahi = ah at *
  have HW : Hid (Below w.heap.size w (w.alloc (.cells #[.slice A x.sp.length c, I al, I ah] 26))) := Lib.hid (below1 _ _)
  have HCP : Hid (∀ W, Below (w.heap.size + 1) (w.alloc (.cells #[.slice A x.sp.length c, I al, I ah] 26)) W → W.cell? ⟨w.heap.size, 0, none⟩ = some (.slice A x.sp.length c) ∧ W.cell? ⟨w.heap.size, 1, none⟩ = some (I al) ∧ W.cell? ⟨w.heap.size, 2, none⟩ = some (I ah) ∧ Below w.heap.size w W) := Lib.hid fun W hW =>
    ⟨(hW.cell (p := ⟨_, _, none⟩) (by simp)).trans (by simp [go_sem]), (hW.cell (p := ⟨_, _, none⟩) (by simp)).trans (by simp [go_sem]), (hW.cell (p := ⟨_, _, none⟩) (by simp)).trans (by simp [go_sem]), (below1 w _).trans (hW.mono (by omega))⟩
  have hsz : (w.alloc (.cells #[.slice A x.sp.length c, I al, I ah] 26)).heap.size = w.heap.size + 1 := by simp
  go_enter Try.func40, Try.ntmps40
  go_wp2_with (fail)
  generalize hwz0 : w.alloc (.cells #[.slice A x.sp.length c, I al, I ah] 26) = wa at *
  clear hwz0
  go_loopw [6, 7, 8] (fun s6 s7 s8 wr => ∃ k : Nat, 1 ≤ k ∧ k ≤ N ∧ s8 = I k ∧ s6 = I ((la k).1 : Nat) ∧ s7 = I (la k).2 ∧ Below (w.heap.size + 1) wa wr) (fun _ _ s _ => N - (intOf s).toNat)
  case atStart => exact ⟨1, by omega, by omega, rfl, by rw [H1.out]; rfl, by rw [H1.out], Below.refl _ _⟩
  case round =>
    obtain ⟨k, hk1, hk, rfl, rfl, rfl, hB⟩ := hrel
    have hzr := hB.size
    obtain ⟨c0, c1, c2, hBw⟩ := HCP.out _ hB
    by_cases hlt : k < N
    · have HFR : Hid (∀ W, Below wr.heap.size wr W → Fours W W.heap.size A x.sp ∧ Ints W W.heap.size B l) := Lib.hid fun W hW => by
        have hW2 : Below w.heap.size w W := hBw.trans (hW.mono hBw.size)
        exact ⟨(HA.out.below hW2).more hW2.size, (HL.out.below hW2).more hW2.size⟩
      have hfb := HFB.out k
      have hnb := HNB.out k
      have hbk : (la k).1 < 64 := by have := HLL.out k; omega
      have HSK := Lib.hid (HS.out k)
      have H34 : Hid (∀ W : World, Below wr.heap.size wr W → Calls Try.prog 34 #[.agg #[.slice A x.sp.length c, I al, I ah], I k] W fun e w' => e = .returned (I (nd k)) ∧ Below W.heap.size W w') := Lib.hid fun W hW => HC34.out k W (by omega) (HFR.out W hW).1
      have H26 : Hid (∀ W : World, Below wr.heap.size wr W → Calls Try.prog 26 #[.agg #[.slice A x.sp.length c, I al, I ah], .slice B l.length d, I k] W fun e w' => e = .returned (I (fo k)) ∧ Below W.heap.size W w') := Lib.hid fun W hW => HC26.out k W (by omega) (HFR.out W hW).1 (HFR.out W hW).2
      have HC1 : Hid (∀ W : World, Calls Try.prog 50 #[I k] W fun e w' => e = .returned (I (countN k)) ∧ W = w') := Lib.hid fun W => H50.out k W (by omega)
      have HC2 : Hid (∀ W : World, Calls Try.prog 50 #[I ((la k).1 : Nat)] W fun e w' => e = .returned (I (countN (la k).1)) ∧ W = w') := Lib.hid fun W => H50.out _ W hbk
      have hn1 := countN_le k
      have hn2 := countN_le (la k).1
      have HLK : Hid (((la k).1, (la k).2) = la k) := Lib.hid rfl
      obtain ⟨b, hb⟩ : ∃ b, (la k).1 = b := ⟨_, rfl⟩
      obtain ⟨m, hm⟩ : ∃ m, (la k).2 = m := ⟨_, rfl⟩
      rw [hb, hm] at HLK
      rw [hb] at HSK HC2 hn2 hbk
      rw [hb, hm]
      clear hb hm
      generalize countN k = n1 at *
      generalize countN b = n2 at *
      generalize nd k = v at *
      generalize fo k = f at *
      generalize hlk : la k = lk at *
      clear hlk
      have p0 : (0 : Int) ≤ (k : Int) := by omega
      have hwr : IntKind.i64.wrap (v - f) = v - f := IntWalk.i64_in _ (by omega)
      have HCX : Hid (∀ W, Below wr.heap.size wr W → W.cell? ⟨w.heap.size, 0, none⟩ = some (.slice A x.sp.length c) ∧ W.cell? ⟨w.heap.size, 1, none⟩ = some (I al) ∧ W.cell? ⟨w.heap.size, 2, none⟩ = some (I ah)) := Lib.hid fun W hW =>
        ⟨(hW.cell (p := ⟨w.heap.size, 0, none⟩) (show w.heap.size < _ by omega)).trans c0, (hW.cell (p := ⟨w.heap.size, 1, none⟩) (show w.heap.size < _ by omega)).trans c1, (hW.cell (p := ⟨w.heap.size, 2, none⟩) (show w.heap.size < _ by omega)).trans c2⟩
      go_wp2_with (first
        | (go_at_call 33; refine (H33.out _).mono ?_; rintro e w1 ⟨rfl, hB1⟩)
        | fail)
      refine (wpIn_wide (n := 9)).1 ?_
      refine wpIn_region_valsB [some 16, some 17, some 18, some 19, some 20, some 21, some 22, some 23, some 9]
        (nthV [.agg #[.slice A x.sp.length c, I al, I ah], I k, I v, .agg #[.slice A x.sp.length c, I al, I ah], .slice B l.length d, I k, I f, I (v - f), I (v - f)])
        [(2, .pointer (some ⟨w.heap.size, 0, none⟩)), (1, .slice B l.length d), (8, I k)]
        (fun W => Below wr.heap.size wr W) rfl (by kernel_rfl) (fun _ => trivial) (by kernel_rfl) (by kernel_rfl) (by kernel_rfl) ⟨rfl, rfl, rfl, trivial⟩ (fun _ d _ _ _ h => by cases d <;> exact h) hB1.drew ?_ ?_
      · refine ⟨?_, ?_, ?_, ?_, ?_, ?_, ?_, ?_, ?_, trivial⟩
        all_goals (intro x0 W hC; obtain ⟨n0, n1, n2⟩ := HCX.out _ hC)
        all_goals first
          | (refine e_no rfl ?_; rfl)
          | (refine e_yes rfl ?_; intro b e hb K hK)
        all_goals first
          | (refine opE_li rfl hb ?_; simp only [execOp, resolve, Oper.about, envB, lookB, lookV, nthV, List.map_toArray, List.map_cons, List.map_nil, Nat.reduceEqDiff, reduceIte, Nat.succ_ne_zero, Nat.zero_ne_one, Nat.one_ne_zero, Nat.reduceAdd, Nat.zero_add]; go_simp; exact hK _ hC)
          | (refine opE_call rfl hb (fun _ => trivial) (fun h => (by cases h)) 34 #[.agg #[.slice A x.sp.length c, I al, I ah], I k] ?_ ?_
             · (simp only [execOp, resolve, Oper.about, envB, lookB, lookV, nthV, List.map_toArray, List.map_cons, List.map_nil, Nat.reduceEqDiff, reduceIte, Nat.succ_ne_zero, Nat.zero_ne_one, Nat.one_ne_zero, Nat.reduceAdd, Nat.zero_add])
               go_simp
             · refine callsIn_wide.2 ((H34.out _ hC).mono ?_)
               rintro e w6 ⟨rfl, hB6⟩
               exact ⟨_, rfl, hK _ (hC.trans (hB6.mono hC.size))⟩)
          | (refine opE_call rfl hb (fun _ => trivial) (fun h => (by cases h)) 26 #[.agg #[.slice A x.sp.length c, I al, I ah], .slice B l.length d, I k] ?_ ?_
             · (simp only [execOp, resolve, Oper.about, envB, lookB, lookV, nthV, List.map_toArray, List.map_cons, List.map_nil, Nat.reduceEqDiff, reduceIte, Nat.succ_ne_zero, Nat.zero_ne_one, Nat.one_ne_zero, Nat.reduceAdd, Nat.zero_add])
               go_simp
             · refine callsIn_wide.2 ((H26.out _ hC).mono ?_)
               rintro e w6 ⟨rfl, hB6⟩
               exact ⟨_, rfl, hK _ (hC.trans (hB6.mono hC.size))⟩)
      · (intro W hC; have HC := Lib.hid hC; clear hC; simp only [putD, nthV, Act.put, List.setIfInBounds_toArray, List.set_cons_succ, List.set_cons_zero, Nat.zero_add, Nat.reduceAdd])
        have hCo := HC.out
        clear HC
        have hB2 := hB.trans (hCo.mono (by omega))
        by_cases h1 : v - f ≤ 0
        · have HE : Hid (la (k + 1) = (b, m)) := Lib.hid (by rw [HSK.out, if_neg (by omega), HLK.out])
          clear HSK HLK
          go_wp2_with (first
              | fail)
          go_roundw
          case rel => first | exact ⟨k + 1, by omega, by omega, by go_num, by rw [HE.out], by rw [HE.out], hB2⟩ | ((repeat apply Exists.intro); refine ⟨?_, rfl⟩; exact ⟨k + 1, by omega, by omega, by go_num, by rw [HE.out], by rw [HE.out], hB2⟩)
          case measure => first | (simp [intOf]; done) | (simp [intOf]; omega)
        · by_cases h2 : b = 0
          · have HE : Hid (la (k + 1) = (k, v - f)) := Lib.hid (by rw [HSK.out, if_pos ⟨by omega, .inl h2⟩])
            clear HSK HLK
            go_wp2_with (first
                | fail)
            go_roundw
            case rel => first | exact ⟨k + 1, by omega, by omega, by go_num, by rw [HE.out], by rw [HE.out], hB2⟩ | ((repeat apply Exists.intro); refine ⟨?_, rfl⟩; exact ⟨k + 1, by omega, by omega, by go_num, by rw [HE.out], by rw [HE.out], hB2⟩)
            case measure => first | (simp [intOf]; done) | (simp [intOf]; omega)
          · by_cases h3 : n1 < n2
            · have HE : Hid (la (k + 1) = (k, v - f)) := Lib.hid (by rw [HSK.out, if_pos ⟨by omega, .inr h3⟩])
              clear HSK HLK
              go_wp2_with (first
                  | (go_at_call 50; first | (with_reducible refine (HC1.out _).mono ?_; rintro e w1 ⟨rfl, rfl⟩) | (with_reducible refine (HC2.out _).mono ?_; rintro e w1 ⟨rfl, rfl⟩))
                  | fail)
              go_roundw
              case rel => first | exact ⟨k + 1, by omega, by omega, by go_num, by rw [HE.out], by rw [HE.out], hB2⟩ | ((repeat apply Exists.intro); refine ⟨?_, rfl⟩; exact ⟨k + 1, by omega, by omega, by go_num, by rw [HE.out], by rw [HE.out], hB2⟩)
              case measure => first | (simp [intOf]; done) | (simp [intOf]; omega)
            · have HE : Hid (la (k + 1) = (b, m)) := Lib.hid (by rw [HSK.out, if_neg (by omega), HLK.out])
              clear HSK HLK
              go_wp2_with (first
                  | (go_at_call 50; first | (with_reducible refine (HC1.out _).mono ?_; rintro e w1 ⟨rfl, rfl⟩) | (with_reducible refine (HC2.out _).mono ?_; rintro e w1 ⟨rfl, rfl⟩))
                  | fail)
              go_roundw
              case rel => first | exact ⟨k + 1, by omega, by omega, by go_num, by rw [HE.out], by rw [HE.out], hB2⟩ | ((repeat apply Exists.intro); refine ⟨?_, rfl⟩; exact ⟨k + 1, by omega, by omega, by go_num, by rw [HE.out], by rw [HE.out], hB2⟩)
              case measure => first | (simp [intOf]; done) | (simp [intOf]; omega)
    · obtain rfl : k = N := by omega
      go_wp2_with (first
        | (go_at_call 33; refine (H33.out _).mono ?_; rintro e w1 ⟨rfl, hB1⟩)
        | fail)
      refine bodyPost_ret (v := .tuple #[I ((la k).1 : Nat), I (la k).2]) (by simp [results, Try.results40, go_sem]) rfl ⟨rfl, ?_⟩
      exact hBw.trans (hB1.mono hBw.size)
end Go.Proofs.Ytfebhofihioaoaa
