/- Is a crowd possible? -/
import Derived.Test.YtfebhofihioaoaaS2
namespace Go.Proofs.Ytfebhofihioaoaa
set_option linter.unusedVariables false
set_option linter.unusedSimpArgs false
open Go Go.RowKit

abbrev crF (l : List Int) : Nat → Int := fun i => l.getD i 0
def PossL (x : Prk) (l : List Int) : Prop := l.length = x.n ∧ Possible x (crF l)
open Classical in
noncomputable def possB (x : Prk) (l : List Int) : Bool := decide (PossL x l)
open Classical in
theorem possB_iff {x : Prk} {l : List Int} : possB x l = true ↔ PossL x l := by unfold possB; exact decide_eq_true_iff
theorem sum_crowd {x : Prk} (hx : PrkOk x) {c : Nat → Int} {k : Nat} (hk : k ≤ x.n) (h : ∀ j, j < k → x.lo j ≤ c j ∧ c j ≤ x.hi j) : 0 ≤ sumN c k ∧ sumN c k ≤ 6291456 := by
  have key : ∀ m, m ≤ k → 0 ≤ sumN c m ∧ sumN c m ≤ 1048576 * m := fun m hm => by
    induction m with
    | zero => simp [sumN]
    | succ m ih =>
      have := ih (by omega)
      have := h m (by omega)
      have := hx.peo m (by omega)
      simp only [sumN]
      omega
  have := key k (Nat.le_refl _)
  have := hx.n6
  omega
set_option maxRecDepth 100000 in
set_option maxHeartbeats 8000000 in
theorem isPossible36 (x : Prk) (A B : Option Addr) (c d : Nat) (l : List Int) (w : World) (hx : PrkOk x) (hA : Fours w w.heap.size A x.sp) (hl : Ints w w.heap.size B l) (hll : l.length ≤ 9223372036854775807) :
    Calls Try.prog 36 #[x.val A c, .slice B l.length d] w fun e w' => e = .returned (.bool (possB x l)) ∧ Below w.heap.size w w' := by
  have HA := Lib.hid hA
  have HL := Lib.hid hl
  have HX := Lib.hid hx
  have hn6 : x.sp.length ≤ 6 := hx.n6
  have HLO : Hid (∀ k (h : k < x.sp.length), x.sp[k].1 = x.lo k ∧ x.sp[k].2.1 = x.hi k) := Lib.hid fun k h => by simp [Prk.lo, Prk.hi, List.getD, h]
  have HY : Hid (l.length = x.sp.length → (∀ k, k < l.length → x.lo k ≤ crF l k ∧ crF l k ≤ x.hi k) → possB x l = inB (sumN (crF l) l.length) x.alo x.ahi) := Lib.hid fun h1 h2 => by
    rw [Bool.eq_iff_iff, possB_iff, inB_true]
    have e : x.n = l.length := h1.symm
    constructor
    · rintro ⟨_, _, h4, h5⟩
      rw [e] at h4 h5
      exact ⟨h4, h5⟩
    · rintro ⟨h4, h5⟩
      exact ⟨h1, fun i hi => h2 i (by omega), by rw [e]; exact h4, by rw [e]; exact h5⟩
  have HN1 : Hid (l.length ≠ x.sp.length → possB x l = false) := Lib.hid fun h => bool_false fun hb => h (possB_iff.1 hb).1
  have HN2 : Hid (l.length = x.sp.length → ∀ k, k < l.length → ¬ (x.lo k ≤ crF l k ∧ crF l k ≤ x.hi k) → possB x l = false) := Lib.hid fun h0 k h1 h2 => bool_false fun hb => h2 ((possB_iff.1 hb).2.1 k (by show k < x.sp.length; omega))
  have HCR : Hid (∀ k (h : k < l.length), l[k] = crF l k) := Lib.hid fun k h => by simp [List.getD, h]
  have HSC : Hid (∀ k, k ≤ x.sp.length → (∀ j, j < k → x.lo j ≤ crF l j ∧ crF l j ≤ x.hi j) → 0 ≤ sumN (crF l) k ∧ sumN (crF l) k ≤ 6291456) := Lib.hid fun k hk h => sum_crowd hx hk h
  obtain ⟨pb, hpb⟩ : ∃ pb, possB x l = pb := ⟨_, rfl⟩
  rw [hpb] at HY HN1 HN2 ⊢
  clear hpb hA hl hx
  obtain ⟨al, hal⟩ : ∃ al, al = x.alo := ⟨_, rfl⟩
  obtain ⟨ah, hah⟩ : ∃ ah, ah = x.ahi := ⟨_, rfl⟩
  simp only [Prk.val]
  rw [← hal, ← hah] at HY ⊢
  clear hal hah
  have HCP : Hid (∀ W, Below (w.heap.size + 1) (w.alloc (.cells #[.slice A x.sp.length c, I al, I ah] 26)) W → W.cell? ⟨w.heap.size, 0, none⟩ = some (.slice A x.sp.length c) ∧ W.cell? ⟨w.heap.size, 1, none⟩ = some (I al) ∧ W.cell? ⟨w.heap.size, 2, none⟩ = some (I ah) ∧ Below w.heap.size w W) := Lib.hid fun W hW =>
    ⟨(hW.cell (p := ⟨_, _, none⟩) (by simp)).trans (by simp [go_sem]), (hW.cell (p := ⟨_, _, none⟩) (by simp)).trans (by simp [go_sem]), (hW.cell (p := ⟨_, _, none⟩) (by simp)).trans (by simp [go_sem]), (below1 w _).trans (hW.mono (by omega))⟩
  have HB0 : Hid (Below (w.heap.size + 1) (w.alloc (.cells #[.slice A x.sp.length c, I al, I ah] 26)) (w.alloc (.cells #[.slice A x.sp.length c, I al, I ah] 26))) := Lib.hid (Below.refl _ _)
  by_cases hlen : l.length = x.sp.length
  · have e1 : ((l.length : Int) != (x.sp.length : Int)) = false := by simp [hlen]
    have e2 : (l.length != x.sp.length) = false := by simp [hlen]
    have HYY := Lib.hid (HY.out hlen)
    have HNN := Lib.hid (HN2.out hlen)
    have HLE := Lib.hid hlen
    have hl6 : l.length ≤ 6 := by omega
    clear hlen HY HN1 HN2
    go_enter Try.func36, Try.ntmps36
    go_wp2_with (fail)
    generalize hwz0 : w.alloc (.cells #[.slice A x.sp.length c, I al, I ah] 26) = wa at *
    have hza : wa.heap.size = w.heap.size + 1 := by rw [← hwz0]; simp
    clear hwz0
    go_loopw [5, 16] (fun s5 s16 wr => ∃ k : Nat, k ≤ l.length ∧ s16 = I k ∧ s5 = I (sumN (crF l) k) ∧ Below (w.heap.size + 1) wa wr ∧ Hid (∀ j, j < k → x.lo j ≤ crF l j ∧ crF l j ≤ x.hi j)) (fun _ s _ => l.length - (intOf s).toNat)
    case atStart => exact ⟨0, by omega, rfl, rfl, HB0.out, Lib.hid fun j h => by omega⟩
    case round =>
      clear HB0
      obtain ⟨k, hk, rfl, rfl, hB, HP⟩ := hrel
      have hzr := hB.size
      obtain ⟨q0, q1, q2, hBw⟩ := HCP.out _ hB
      have hsb := HSC.out k (by have := HLE.out; omega) HP.out
      by_cases hlt : k < l.length
      · obtain ⟨lb, lo', hLe, hlz, hlc⟩ := (HL.out.below hBw) (by omega)
        subst hLe
        obtain ⟨ab, ao, hAe, haz, hac⟩ := (HA.out.below hBw) (by have := HLE.out; omega)
        subst hAe
        have l0 := hlc k hlt
        have hkx : k < x.sp.length := by have := HLE.out; omega
        obtain ⟨a0, a1, _, _⟩ := hac k hkx
        obtain ⟨e0, e1'⟩ := HLO.out k hkx
        rw [e0] at a0
        rw [e1'] at a1
        rw [HCR.out k hlt] at l0
        have HNK := Lib.hid (HNN.out k hlt)
        have HST : Hid (x.lo k ≤ crF l k ∧ crF l k ≤ x.hi k → ∀ j, j < k + 1 → x.lo j ≤ crF l j ∧ crF l j ≤ x.hi j) := Lib.hid fun e j hj => by
          rcases Nat.lt_succ_iff_lt_or_eq.1 hj with h1 | rfl
          · exact HP.out j h1
          · exact e
        have HSS : Hid (sumN (crF l) (k + 1) = sumN (crF l) k + crF l k) := Lib.hid rfl
        have hpk := HX.out.peo k hkx
        generalize sumN (crF l) k = s at *
        generalize hvv : crF l k = v at *
        generalize x.lo k = lo at *
        generalize x.hi k = hi at *
        clear hvv
        have HIN : Hid (∀ W, Calls Try.prog 30 #[I v, I lo, I hi] W fun e w' => e = .returned (.bool (inB v lo hi)) ∧ W = w') := Lib.hid fun W => within30 _ _ _ W
        have hVB : Hid (inB v lo hi = true → lo ≤ v ∧ v ≤ hi) := Lib.hid inB_true.1
        have hVN : Hid (inB v lo hi = false → ¬ (lo ≤ v ∧ v ≤ hi)) := Lib.hid inB_false.1
        have p0 : (0 : Int) ≤ (k : Int) := by omega
        have p1 : (k : Int) < (l.length : Int) := by omega
        have p2 : (k : Int) < (x.sp.length : Int) := by omega
        have HCX : Hid (∀ W, Below wr.heap.size wr W → W.cell? ⟨w.heap.size, 0, none⟩ = some (.slice (some ⟨ab, ao, none⟩) x.sp.length c) ∧ W.cell? ⟨ab, ao + k * 4, none⟩ = some (I lo) ∧ W.cell? ⟨ab, ao + k * 4 + 1, none⟩ = some (I hi) ∧ W.cell? ⟨lb, lo' + k, none⟩ = some (I v)) := Lib.hid fun W hW =>
          ⟨(hW.cell (p := ⟨w.heap.size, 0, none⟩) (show w.heap.size < _ by omega)).trans q0, (hW.cell (p := ⟨ab, ao + k * 4, none⟩) (show ab < _ by have := hBw.size; omega)).trans a0, (hW.cell (p := ⟨ab, ao + k * 4 + 1, none⟩) (show ab < _ by have := hBw.size; omega)).trans a1, (hW.cell (p := ⟨lb, lo' + k, none⟩) (show lb < _ by have := hBw.size; omega)).trans l0⟩
        obtain ⟨b1, hb1⟩ : ∃ b, inB v lo hi = b := ⟨_, rfl⟩
        rw [hb1] at HIN hVB hVN
        clear hb1 hlc hac e0 e1' a0 a1 q1 q2
        go_wp2_with (fail)
        cases b1
        · refine (wpIn_wide (n := 9)).1 ?_
          refine wpIn_region_valsB [some 21, some 22, some 23, some 24, some 25, some 26, some 27, some 28, some 29, some 30, some 31, some 32, some 33, some 34, some 35, some 36, some 37]
            (nthV [I v, .pointer (some ⟨w.heap.size, 0, none⟩), .slice (some ⟨ab, ao, none⟩) x.sp.length c, I k, .pointer (some ⟨ab, ao + k * 4, none⟩), .pointer (some ⟨ab, ao + k * 4, none⟩), .pointer (some ⟨ab, ao + k * 4, none⟩), I lo, .pointer (some ⟨w.heap.size, 0, none⟩), .slice (some ⟨ab, ao, none⟩) x.sp.length c, I k, .pointer (some ⟨ab, ao + k * 4, none⟩), .pointer (some ⟨ab, ao + k * 4, none⟩), .pointer (some ⟨ab, ao + k * 4 + 1, none⟩), I hi, .bool false, .bool true])
            [(2, .pointer (some ⟨w.heap.size, 0, none⟩)), (6, I k), (7, I v)]
            (fun W => Below wr.heap.size wr W) rfl (by kernel_rfl) (fun _ => trivial) (by kernel_rfl) (by kernel_rfl) (by kernel_rfl) ⟨rfl, rfl, rfl, trivial⟩ (fun _ d _ _ _ h => by cases d <;> exact h) (Below.refl _ _).drew ?_ ?_
          · refine ⟨?_, ?_, ?_, ?_, ?_, ?_, ?_, ?_, ?_, ?_, ?_, ?_, ?_, ?_, ?_, ?_, ?_, trivial⟩
            all_goals (intro x0 W hC; obtain ⟨n0, n1, n2, n3⟩ := HCX.out _ hC)
            all_goals first
              | (refine e_no rfl ?_; rfl)
              | (refine e_yes rfl ?_; intro b e hb K hK)
            all_goals first
              | (refine opE_li rfl hb ?_; simp only [execOp, resolve, Oper.about, envB, lookB, lookV, nthV, List.map_toArray, List.map_cons, List.map_nil, Nat.reduceEqDiff, reduceIte, Nat.succ_ne_zero, Nat.zero_ne_one, Nat.one_ne_zero, Nat.reduceAdd, Nat.zero_add]; go_simp; exact hK _ hC)
              | (refine opE_call rfl hb (fun _ => trivial) (fun h => (by cases h)) 30 #[I v, I lo, I hi] ?_ ?_
                 · (simp only [execOp, resolve, Oper.about, envB, lookB, lookV, nthV, List.map_toArray, List.map_cons, List.map_nil, Nat.reduceEqDiff, reduceIte, Nat.succ_ne_zero, Nat.zero_ne_one, Nat.one_ne_zero, Nat.reduceAdd, Nat.zero_add])
                   go_simp
                 · refine callsIn_wide.2 ((HIN.out _).mono ?_)
                   rintro e w6 ⟨rfl, rfl⟩
                   exact ⟨_, rfl, hK _ hC⟩)
          · (intro W hC; have HC := Lib.hid hC; clear hC; simp only [putD, nthV, Act.put, List.setIfInBounds_toArray, List.set_cons_succ, List.set_cons_zero, Nat.zero_add, Nat.reduceAdd])
            have hCo := HC.out
            clear HC
            have HF : Hid (pb = false) := Lib.hid (HNK.out (hVN.out rfl))
            go_wp2
            go_ret
            exact ⟨ret_b HF.out.symm, hBw.trans (hCo.mono hBw.size)⟩
        · refine (wpIn_wide (n := 9)).1 ?_
          refine wpIn_region_valsB [some 21, some 22, some 23, some 24, some 25, some 26, some 27, some 28, some 29, some 30, some 31, some 32, some 33, some 34, some 35, some 36, some 37]
            (nthV [I v, .pointer (some ⟨w.heap.size, 0, none⟩), .slice (some ⟨ab, ao, none⟩) x.sp.length c, I k, .pointer (some ⟨ab, ao + k * 4, none⟩), .pointer (some ⟨ab, ao + k * 4, none⟩), .pointer (some ⟨ab, ao + k * 4, none⟩), I lo, .pointer (some ⟨w.heap.size, 0, none⟩), .slice (some ⟨ab, ao, none⟩) x.sp.length c, I k, .pointer (some ⟨ab, ao + k * 4, none⟩), .pointer (some ⟨ab, ao + k * 4, none⟩), .pointer (some ⟨ab, ao + k * 4 + 1, none⟩), I hi, .bool true, .bool false])
            [(2, .pointer (some ⟨w.heap.size, 0, none⟩)), (6, I k), (7, I v)]
            (fun W => Below wr.heap.size wr W) rfl (by kernel_rfl) (fun _ => trivial) (by kernel_rfl) (by kernel_rfl) (by kernel_rfl) ⟨rfl, rfl, rfl, trivial⟩ (fun _ d _ _ _ h => by cases d <;> exact h) (Below.refl _ _).drew ?_ ?_
          · refine ⟨?_, ?_, ?_, ?_, ?_, ?_, ?_, ?_, ?_, ?_, ?_, ?_, ?_, ?_, ?_, ?_, ?_, trivial⟩
            all_goals (intro x0 W hC; obtain ⟨n0, n1, n2, n3⟩ := HCX.out _ hC)
            all_goals first
              | (refine e_no rfl ?_; rfl)
              | (refine e_yes rfl ?_; intro b e hb K hK)
            all_goals first
              | (refine opE_li rfl hb ?_; simp only [execOp, resolve, Oper.about, envB, lookB, lookV, nthV, List.map_toArray, List.map_cons, List.map_nil, Nat.reduceEqDiff, reduceIte, Nat.succ_ne_zero, Nat.zero_ne_one, Nat.one_ne_zero, Nat.reduceAdd, Nat.zero_add]; go_simp; exact hK _ hC)
              | (refine opE_call rfl hb (fun _ => trivial) (fun h => (by cases h)) 30 #[I v, I lo, I hi] ?_ ?_
                 · (simp only [execOp, resolve, Oper.about, envB, lookB, lookV, nthV, List.map_toArray, List.map_cons, List.map_nil, Nat.reduceEqDiff, reduceIte, Nat.succ_ne_zero, Nat.zero_ne_one, Nat.one_ne_zero, Nat.reduceAdd, Nat.zero_add])
                   go_simp
                 · refine callsIn_wide.2 ((HIN.out _).mono ?_)
                   rintro e w6 ⟨rfl, rfl⟩
                   exact ⟨_, rfl, hK _ hC⟩)
          · (intro W hC; have HC := Lib.hid hC; clear hC; simp only [putD, nthV, Act.put, List.setIfInBounds_toArray, List.set_cons_succ, List.set_cons_zero, Nat.zero_add, Nat.reduceAdd])
            have hCo := HC.out
            clear HC
            have hBf := hB.trans (hCo.mono (by omega))
            have hv := hVB.out rfl
            have HO6 := Lib.hid (HST.out hv)
            go_wp2
            go_roundw
            case rel => first | exact ⟨k + 1, by omega, by go_num, by rw [HSS.out], hBf, HO6⟩ | ((repeat apply Exists.intro); refine ⟨?_, rfl⟩; exact ⟨k + 1, by omega, by go_num, by rw [HSS.out], hBf, HO6⟩)
            case measure => first | (simp [intOf]; done) | (simp [intOf]; omega)
      · obtain rfl : l.length = k := by omega
        have HT := Lib.hid (HYY.out HP.out)
        have HIE : Hid (∀ W, Calls Try.prog 30 #[I (sumN (crF l) l.length), I al, I ah] W fun e w' => e = .returned (.bool (inB (sumN (crF l) l.length) al ah)) ∧ W = w') := Lib.hid fun W => within30 _ _ _ W
        generalize inB (sumN (crF l) l.length) al ah = bf at *
        generalize sumN (crF l) l.length = s at *
        go_wp2_with (fail)
        go_wp2_with (first
          | (go_at_call 30; refine (HIE.out _).mono ?_; rintro e w1 ⟨rfl, rfl⟩)
          | fail)
        go_ret
        exact ⟨ret_b HT.out.symm, hBw⟩
  · have e1 : ((l.length : Int) != (x.sp.length : Int)) = true := by simp; omega
    have e2 : (l.length != x.sp.length) = true := by simpa using hlen
    have HF := Lib.hid (HN1.out hlen)
    clear hlen HY HN1 HN2
    go_enter Try.func36, Try.ntmps36
    go_wp2
    go_ret
    exact ⟨ret_b HF.out.symm, below1 _ _⟩
set_option maxRecDepth 100000 in
set_option maxHeartbeats 8000000 in
theorem possible27 (x : Prk) (A B : Option Addr) (c d : Nat) (l : List Int) (w : World) (hx : PrkOk x) (hA : Fours w w.heap.size A x.sp) (hl : Ints w w.heap.size B l) (hll : l.length ≤ 9223372036854775807) :
    Calls Try.prog 27 #[x.val A c, .slice B l.length d] w fun e w' => e = .returned (.bool (possB x l)) ∧ Below w.heap.size w w' := by
  have HA := Lib.hid hA
  have HL := Lib.hid hl
  have HX := Lib.hid hx
  have hn6 : x.sp.length ≤ 6 := hx.n6
  have HLO : Hid (∀ k (h : k < x.sp.length), x.sp[k].1 = x.lo k ∧ x.sp[k].2.1 = x.hi k) := Lib.hid fun k h => by simp [Prk.lo, Prk.hi, List.getD, h]
  have HY : Hid (l.length = x.sp.length → (∀ k, k < l.length → x.lo k ≤ crF l k ∧ crF l k ≤ x.hi k) → possB x l = inB (sumN (crF l) l.length) x.alo x.ahi) := Lib.hid fun h1 h2 => by
    rw [Bool.eq_iff_iff, possB_iff, inB_true]
    have e : x.n = l.length := h1.symm
    constructor
    · rintro ⟨_, _, h4, h5⟩
      rw [e] at h4 h5
      exact ⟨h4, h5⟩
    · rintro ⟨h4, h5⟩
      exact ⟨h1, fun i hi => h2 i (by omega), by rw [e]; exact h4, by rw [e]; exact h5⟩
  have HN1 : Hid (l.length ≠ x.sp.length → possB x l = false) := Lib.hid fun h => bool_false fun hb => h (possB_iff.1 hb).1
  have HN2 : Hid (l.length = x.sp.length → ∀ k, k < l.length → ¬ (x.lo k ≤ crF l k ∧ crF l k ≤ x.hi k) → possB x l = false) := Lib.hid fun h0 k h1 h2 => bool_false fun hb => h2 ((possB_iff.1 hb).2.1 k (by show k < x.sp.length; omega))
  have HCR : Hid (∀ k (h : k < l.length), l[k] = crF l k) := Lib.hid fun k h => by simp [List.getD, h]
  have HSC : Hid (∀ k, k ≤ x.sp.length → (∀ j, j < k → x.lo j ≤ crF l j ∧ crF l j ≤ x.hi j) → 0 ≤ sumN (crF l) k ∧ sumN (crF l) k ≤ 6291456) := Lib.hid fun k hk h => sum_crowd hx hk h
  obtain ⟨pb, hpb⟩ : ∃ pb, possB x l = pb := ⟨_, rfl⟩
  rw [hpb] at HY HN1 HN2 ⊢
  clear hpb hA hl hx
  obtain ⟨al, hal⟩ : ∃ al, al = x.alo := ⟨_, rfl⟩
  obtain ⟨ah, hah⟩ : ∃ ah, ah = x.ahi := ⟨_, rfl⟩
  simp only [Prk.val]
  rw [← hal, ← hah] at HY ⊢
  clear hal hah
  have HCP : Hid (∀ W, Below (w.heap.size + 1) (w.alloc (.cells #[.slice A x.sp.length c, I al, I ah] 26)) W → W.cell? ⟨w.heap.size, 0, none⟩ = some (.slice A x.sp.length c) ∧ W.cell? ⟨w.heap.size, 1, none⟩ = some (I al) ∧ W.cell? ⟨w.heap.size, 2, none⟩ = some (I ah) ∧ Below w.heap.size w W) := Lib.hid fun W hW =>
    ⟨(hW.cell (p := ⟨_, _, none⟩) (by simp)).trans (by simp [go_sem]), (hW.cell (p := ⟨_, _, none⟩) (by simp)).trans (by simp [go_sem]), (hW.cell (p := ⟨_, _, none⟩) (by simp)).trans (by simp [go_sem]), (below1 w _).trans (hW.mono (by omega))⟩
  have HB0 : Hid (Below (w.heap.size + 1) (w.alloc (.cells #[.slice A x.sp.length c, I al, I ah] 26)) (w.alloc (.cells #[.slice A x.sp.length c, I al, I ah] 26))) := Lib.hid (Below.refl _ _)
  by_cases hlen : l.length = x.sp.length
  · have e1 : ((l.length : Int) != (x.sp.length : Int)) = false := by simp [hlen]
    have e2 : (l.length != x.sp.length) = false := by simp [hlen]
    have HYY := Lib.hid (HY.out hlen)
    have HNN := Lib.hid (HN2.out hlen)
    have HLE := Lib.hid hlen
    have hl6 : l.length ≤ 6 := by omega
    clear hlen HY HN1 HN2
    go_enter Try.func27, Try.ntmps27
    go_wp2_with (fail)
    generalize hwz0 : w.alloc (.cells #[.slice A x.sp.length c, I al, I ah] 26) = wa at *
    have hza : wa.heap.size = w.heap.size + 1 := by rw [← hwz0]; simp
    clear hwz0
    go_loopw [5, 6] (fun s5 s6 wr => ∃ k : Nat, k ≤ l.length ∧ s6 = I k ∧ s5 = I (sumN (crF l) k) ∧ Below (w.heap.size + 1) wa wr ∧ Hid (∀ j, j < k → x.lo j ≤ crF l j ∧ crF l j ≤ x.hi j)) (fun _ s _ => l.length - (intOf s).toNat)
    case atStart => exact ⟨0, by omega, rfl, rfl, HB0.out, Lib.hid fun j h => by omega⟩
    case round =>
      clear HB0
      obtain ⟨k, hk, rfl, rfl, hB, HP⟩ := hrel
      have hzr := hB.size
      obtain ⟨q0, q1, q2, hBw⟩ := HCP.out _ hB
      have hsb := HSC.out k (by have := HLE.out; omega) HP.out
      by_cases hlt : k < l.length
      · obtain ⟨lb, lo', hLe, hlz, hlc⟩ := (HL.out.below hBw) (by omega)
        subst hLe
        obtain ⟨ab, ao, hAe, haz, hac⟩ := (HA.out.below hBw) (by have := HLE.out; omega)
        subst hAe
        have l0 := hlc k hlt
        have hkx : k < x.sp.length := by have := HLE.out; omega
        obtain ⟨a0, a1, _, _⟩ := hac k hkx
        obtain ⟨e0, e1'⟩ := HLO.out k hkx
        rw [e0] at a0
        rw [e1'] at a1
        rw [HCR.out k hlt] at l0
        have HNK := Lib.hid (HNN.out k hlt)
        have HST : Hid (x.lo k ≤ crF l k ∧ crF l k ≤ x.hi k → ∀ j, j < k + 1 → x.lo j ≤ crF l j ∧ crF l j ≤ x.hi j) := Lib.hid fun e j hj => by
          rcases Nat.lt_succ_iff_lt_or_eq.1 hj with h1 | rfl
          · exact HP.out j h1
          · exact e
        have HSS : Hid (sumN (crF l) (k + 1) = sumN (crF l) k + crF l k) := Lib.hid rfl
        have hpk := HX.out.peo k hkx
        generalize sumN (crF l) k = s at *
        generalize hvv : crF l k = v at *
        generalize x.lo k = lo at *
        generalize x.hi k = hi at *
        clear hvv
        have HIN : Hid (∀ W, Calls Try.prog 32 #[I v, I lo, I hi] W fun e w' => e = .returned (.bool (inB v lo hi)) ∧ W = w') := Lib.hid fun W => in32 _ _ _ W
        have hVB : Hid (inB v lo hi = true → lo ≤ v ∧ v ≤ hi) := Lib.hid inB_true.1
        have hVN : Hid (inB v lo hi = false → ¬ (lo ≤ v ∧ v ≤ hi)) := Lib.hid inB_false.1
        have p0 : (0 : Int) ≤ (k : Int) := by omega
        have p1 : (k : Int) < (l.length : Int) := by omega
        have p2 : (k : Int) < (x.sp.length : Int) := by omega
        have HCX : Hid (∀ W, Below wr.heap.size wr W → W.cell? ⟨w.heap.size, 0, none⟩ = some (.slice (some ⟨ab, ao, none⟩) x.sp.length c) ∧ W.cell? ⟨ab, ao + k * 4, none⟩ = some (I lo) ∧ W.cell? ⟨ab, ao + k * 4 + 1, none⟩ = some (I hi) ∧ W.cell? ⟨lb, lo' + k, none⟩ = some (I v)) := Lib.hid fun W hW =>
          ⟨(hW.cell (p := ⟨w.heap.size, 0, none⟩) (show w.heap.size < _ by omega)).trans q0, (hW.cell (p := ⟨ab, ao + k * 4, none⟩) (show ab < _ by have := hBw.size; omega)).trans a0, (hW.cell (p := ⟨ab, ao + k * 4 + 1, none⟩) (show ab < _ by have := hBw.size; omega)).trans a1, (hW.cell (p := ⟨lb, lo' + k, none⟩) (show lb < _ by have := hBw.size; omega)).trans l0⟩
        obtain ⟨b1, hb1⟩ : ∃ b, inB v lo hi = b := ⟨_, rfl⟩
        rw [hb1] at HIN hVB hVN
        clear hb1 hlc hac e0 e1' a0 a1 q1 q2
        go_wp2_with (fail)
        cases b1
        · refine (wpIn_wide (n := 9)).1 ?_
          refine wpIn_region_valsB [some 19, some 20, some 21, some 22, some 23, some 24, some 25, some 26, some 27, some 28, some 29, some 30, some 31, some 32, some 33, some 34, some 35, some 36, some 37, some 38]
            (nthV [.slice (some ⟨lb, lo', none⟩) l.length d, I k, .pointer (some ⟨lb, lo' + k, none⟩), I v, .pointer (some ⟨w.heap.size, 0, none⟩), .slice (some ⟨ab, ao, none⟩) x.sp.length c, I k, .pointer (some ⟨ab, ao + k * 4, none⟩), .pointer (some ⟨ab, ao + k * 4, none⟩), .pointer (some ⟨ab, ao + k * 4, none⟩), I lo, .pointer (some ⟨w.heap.size, 0, none⟩), .slice (some ⟨ab, ao, none⟩) x.sp.length c, I k, .pointer (some ⟨ab, ao + k * 4, none⟩), .pointer (some ⟨ab, ao + k * 4, none⟩), .pointer (some ⟨ab, ao + k * 4 + 1, none⟩), I hi, .bool false, .bool true])
            [(1, .slice (some ⟨lb, lo', none⟩) l.length d), (2, .pointer (some ⟨w.heap.size, 0, none⟩)), (6, I k)]
            (fun W => Below wr.heap.size wr W) rfl (by kernel_rfl) (fun _ => trivial) (by kernel_rfl) (by kernel_rfl) (by kernel_rfl) ⟨rfl, rfl, rfl, trivial⟩ (fun _ d _ _ _ h => by cases d <;> exact h) (Below.refl _ _).drew ?_ ?_
          · refine ⟨?_, ?_, ?_, ?_, ?_, ?_, ?_, ?_, ?_, ?_, ?_, ?_, ?_, ?_, ?_, ?_, ?_, ?_, ?_, ?_, trivial⟩
            all_goals (intro x0 W hC; obtain ⟨n0, n1, n2, n3⟩ := HCX.out _ hC)
            all_goals first
              | (refine e_no rfl ?_; rfl)
              | (refine e_yes rfl ?_; intro b e hb K hK)
            all_goals first
              | (refine opE_li rfl hb ?_; simp only [execOp, resolve, Oper.about, envB, lookB, lookV, nthV, List.map_toArray, List.map_cons, List.map_nil, Nat.reduceEqDiff, reduceIte, Nat.succ_ne_zero, Nat.zero_ne_one, Nat.one_ne_zero, Nat.reduceAdd, Nat.zero_add]; go_simp; exact hK _ hC)
              | (refine opE_call rfl hb (fun _ => trivial) (fun h => (by cases h)) 32 #[I v, I lo, I hi] ?_ ?_
                 · (simp only [execOp, resolve, Oper.about, envB, lookB, lookV, nthV, List.map_toArray, List.map_cons, List.map_nil, Nat.reduceEqDiff, reduceIte, Nat.succ_ne_zero, Nat.zero_ne_one, Nat.one_ne_zero, Nat.reduceAdd, Nat.zero_add])
                   go_simp
                 · refine callsIn_wide.2 ((HIN.out _).mono ?_)
                   rintro e w6 ⟨rfl, rfl⟩
                   exact ⟨_, rfl, hK _ hC⟩)
          · (intro W hC; have HC := Lib.hid hC; clear hC; simp only [putD, nthV, Act.put, List.setIfInBounds_toArray, List.set_cons_succ, List.set_cons_zero, Nat.zero_add, Nat.reduceAdd])
            have hCo := HC.out
            clear HC
            have HF : Hid (pb = false) := Lib.hid (HNK.out (hVN.out rfl))
            go_wp2
            go_ret
            exact ⟨ret_b HF.out.symm, hBw.trans (hCo.mono hBw.size)⟩
        · refine (wpIn_wide (n := 9)).1 ?_
          refine wpIn_region_valsB [some 19, some 20, some 21, some 22, some 23, some 24, some 25, some 26, some 27, some 28, some 29, some 30, some 31, some 32, some 33, some 34, some 35, some 36, some 37, some 38]
            (nthV [.slice (some ⟨lb, lo', none⟩) l.length d, I k, .pointer (some ⟨lb, lo' + k, none⟩), I v, .pointer (some ⟨w.heap.size, 0, none⟩), .slice (some ⟨ab, ao, none⟩) x.sp.length c, I k, .pointer (some ⟨ab, ao + k * 4, none⟩), .pointer (some ⟨ab, ao + k * 4, none⟩), .pointer (some ⟨ab, ao + k * 4, none⟩), I lo, .pointer (some ⟨w.heap.size, 0, none⟩), .slice (some ⟨ab, ao, none⟩) x.sp.length c, I k, .pointer (some ⟨ab, ao + k * 4, none⟩), .pointer (some ⟨ab, ao + k * 4, none⟩), .pointer (some ⟨ab, ao + k * 4 + 1, none⟩), I hi, .bool true, .bool false])
            [(1, .slice (some ⟨lb, lo', none⟩) l.length d), (2, .pointer (some ⟨w.heap.size, 0, none⟩)), (6, I k)]
            (fun W => Below wr.heap.size wr W) rfl (by kernel_rfl) (fun _ => trivial) (by kernel_rfl) (by kernel_rfl) (by kernel_rfl) ⟨rfl, rfl, rfl, trivial⟩ (fun _ d _ _ _ h => by cases d <;> exact h) (Below.refl _ _).drew ?_ ?_
          · refine ⟨?_, ?_, ?_, ?_, ?_, ?_, ?_, ?_, ?_, ?_, ?_, ?_, ?_, ?_, ?_, ?_, ?_, ?_, ?_, ?_, trivial⟩
            all_goals (intro x0 W hC; obtain ⟨n0, n1, n2, n3⟩ := HCX.out _ hC)
            all_goals first
              | (refine e_no rfl ?_; rfl)
              | (refine e_yes rfl ?_; intro b e hb K hK)
            all_goals first
              | (refine opE_li rfl hb ?_; simp only [execOp, resolve, Oper.about, envB, lookB, lookV, nthV, List.map_toArray, List.map_cons, List.map_nil, Nat.reduceEqDiff, reduceIte, Nat.succ_ne_zero, Nat.zero_ne_one, Nat.one_ne_zero, Nat.reduceAdd, Nat.zero_add]; go_simp; exact hK _ hC)
              | (refine opE_call rfl hb (fun _ => trivial) (fun h => (by cases h)) 32 #[I v, I lo, I hi] ?_ ?_
                 · (simp only [execOp, resolve, Oper.about, envB, lookB, lookV, nthV, List.map_toArray, List.map_cons, List.map_nil, Nat.reduceEqDiff, reduceIte, Nat.succ_ne_zero, Nat.zero_ne_one, Nat.one_ne_zero, Nat.reduceAdd, Nat.zero_add])
                   go_simp
                 · refine callsIn_wide.2 ((HIN.out _).mono ?_)
                   rintro e w6 ⟨rfl, rfl⟩
                   exact ⟨_, rfl, hK _ hC⟩)
          · (intro W hC; have HC := Lib.hid hC; clear hC; simp only [putD, nthV, Act.put, List.setIfInBounds_toArray, List.set_cons_succ, List.set_cons_zero, Nat.zero_add, Nat.reduceAdd])
            have hCo := HC.out
            clear HC
            have hBf := hB.trans (hCo.mono (by omega))
            have hv := hVB.out rfl
            have HO6 := Lib.hid (HST.out hv)
            obtain ⟨n0, n1, n2, n3⟩ := HCX.out _ hCo
            go_wp2
            go_roundw
            case rel => first | exact ⟨k + 1, by omega, by go_num, by rw [HSS.out], hBf, HO6⟩ | ((repeat apply Exists.intro); refine ⟨?_, rfl⟩; exact ⟨k + 1, by omega, by go_num, by rw [HSS.out], hBf, HO6⟩)
            case measure => first | (simp [intOf]; done) | (simp [intOf]; omega)
      · obtain rfl : l.length = k := by omega
        have HT := Lib.hid (HYY.out HP.out)
        have HIE : Hid (∀ W, Calls Try.prog 32 #[I (sumN (crF l) l.length), I al, I ah] W fun e w' => e = .returned (.bool (inB (sumN (crF l) l.length) al ah)) ∧ W = w') := Lib.hid fun W => in32 _ _ _ W
        generalize inB (sumN (crF l) l.length) al ah = bf at *
        generalize sumN (crF l) l.length = s at *
        go_wp2_with (fail)
        go_wp2_with (first
          | (go_at_call 32; refine (HIE.out _).mono ?_; rintro e w1 ⟨rfl, rfl⟩)
          | fail)
        go_ret
        exact ⟨ret_b HT.out.symm, hBw⟩
  · have e1 : ((l.length : Int) != (x.sp.length : Int)) = true := by simp; omega
    have e2 : (l.length != x.sp.length) = true := by simpa using hlen
    have HF := Lib.hid (HN1.out hlen)
    clear hlen HY HN1 HN2
    go_enter Try.func27, Try.ntmps27
    go_wp2
    go_ret
    exact ⟨ret_b HF.out.symm, below1 _ _⟩
end Go.Proofs.Ytfebhofihioaoaa
