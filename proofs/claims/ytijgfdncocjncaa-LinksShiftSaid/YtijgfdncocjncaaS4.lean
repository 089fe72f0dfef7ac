/- What needs a link, of the program. -/
import Derived.Test.YtijgfdncocjncaaS3
import Derived.Laws.BitsAllLaws
namespace Go.Proofs.Ytijgfdncocjncaa
set_option linter.unusedVariables false
set_option linter.unusedSimpArgs false
open Go Go.RowKit

theorem own_split {x : Wat} {t i : Nat} (hi : i < x.m) (hs : x.sp i = (t : Int)) : ∃ r, own x t = ownTo x t i ++ i :: r := by
  have key : ∀ d, ∃ r, ownTo x t (i + 1 + d) = ownTo x t i ++ i :: r := fun d => by
    induction d with
    | zero =>
      refine ⟨[], ?_⟩
      rw [Nat.add_zero, ownTo_succ]
      simp [hs]
    | succ d ih =>
      obtain ⟨r, hr⟩ := ih
      refine ⟨r ++ if x.sp (i + 1 + d) == (t : Int) then [i + 1 + d] else [], ?_⟩
      rw [← Nat.add_assoc, ownTo_succ, hr]
      simp
  obtain ⟨r, hr⟩ := key (x.m - (i + 1))
  rw [show i + 1 + (x.m - (i + 1)) = x.m by omega] at hr
  exact ⟨r, hr⟩
theorem own_at_ {x : Wat} {t j : Nat} (hj : j < (own x t).length) : (own x t)[j] < x.m ∧ x.sp (own x t)[j] = (t : Int) ∧ ownTo x t (own x t)[j] = (own x t).take j := by
  obtain ⟨h1, h2⟩ := mem_own.1 (List.getElem_mem hj)
  refine ⟨h1, h2, ?_⟩
  obtain ⟨i, hi⟩ : ∃ i, (own x t)[j] = i := ⟨_, rfl⟩
  rw [hi] at h1 h2 ⊢
  obtain ⟨r, hr⟩ := own_split h1 h2
  have hn : (own x t).Nodup := (own_sorted x t x.m).imp (fun h => by omega)
  have h3 : (ownTo x t i).length < (own x t).length := by
    have := congrArg List.length hr
    simp at this
    omega
  have h4 : (own x t)[(ownTo x t i).length] = (own x t)[j] := by
    have h5 : (own x t)[(ownTo x t i).length]? = some i := by
      rw [hr]
      simp
    rw [List.getElem?_eq_getElem h3] at h5
    rw [hi]
    exact Option.some.inj h5
  have hl : (ownTo x t i).length = j := (List.getElem_inj hn).1 h4
  rw [hr, List.take_left' hl]
theorem need_at {x : Wat} {t j : Nat} (hj : j < (own x t).length) : needB x (own x t)[j] = (decide (0 < j) && !inB (x.tm (own x t)[j] - x.tm ((own x t).getD (j - 1) 0)) (x.ol t) (x.oh t)) := by
  obtain ⟨h1, h2, h3⟩ := own_at_ hj
  unfold needB
  rw [h2, prevTo_last, h3, Int.toNat_natCast]
  cases j with
  | zero => simp [optI]
  | succ j =>
    have e : ((own x t).take (j + 1)).getLast? = some (own x t)[j] := by
      rw [List.getLast?_eq_getElem?, List.length_take, Nat.min_eq_left (by omega), Nat.add_sub_cancel, List.getElem?_take_of_lt (by omega), List.getElem?_eq_getElem]
    rw [e]
    have e2 : (own x t).getD j 0 = (own x t)[j] := by simp [List.getD, show j < (own x t).length by omega]
    simp only [optI, Nat.add_sub_cancel, e2]
    simp
/-- The set of those of the first j that need a link. -/
def needK (x : Wat) (t j : Nat) (i : Nat) : Bool := ((own x t).take j).contains i && needB x i
theorem needK_succ {x : Wat} {t j : Nat} (hj : j < (own x t).length) (i : Nat) : needK x t (j + 1) i = (needK x t j i || (i == (own x t)[j] && needB x (own x t)[j])) := by
  unfold needK
  rw [List.take_succ_eq_append_getElem hj, List.contains_append]
  by_cases h : i = (own x t)[j]
  · subst h
    cases needB x (own x t)[j] <;> simp
  · simp [h]
theorem needK_all (x : Wat) (t i : Nat) : needK x t (own x t).length i = needP x t i := by
  unfold needK needP
  rw [List.take_length, Bool.eq_iff_iff]
  simp only [Bool.and_eq_true, List.contains_iff_mem, mem_own, decide_eq_true_iff, beq_iff_eq, and_assoc]
theorem needS_step {x : Wat} {t j : Nat} (hj : j < (own x t).length) : setN (needK x t (j + 1)) = if needB x (own x t)[j] then setN (needK x t j) ||| setN (fun i => i == (own x t)[j]) else setN (needK x t j) := by
  split
  · rename_i h
    rw [setN_or]
    exact setN_congr fun i _ => by rw [needK_succ hj, h, Bool.and_true]
  · rename_i h
    exact setN_congr fun i _ => by rw [needK_succ hj, bool_false h, Bool.and_false, Bool.or_false]
theorem wrapU (n : Nat) (h : n < 18446744073709551616) : IntKind.u64.wrap (n : Int) = (n : Int) := by
  rw [IntKind.wrap_u64]
  omega
theorem pow_u {i : Nat} (h : i < 64) : ((2 : Int) ^ i) = ((2 ^ i : Nat) : Int) ∧ 2 ^ i < 18446744073709551616 := by
  refine ⟨by push_cast; rfl, ?_⟩
  rw [setN_one h]
  exact setN_lt _
theorem orU (a b : Nat) (ha : a < 18446744073709551616) (hb : b < 18446744073709551616) : Go.bits BinOp.or IntKind.u64 (a : Int) (b : Int) = ((a ||| b : Nat) : Int) := u64_or_nat a b ha hb
abbrev U64 (n : Int) : Value := .int .u64 n
set_option maxRecDepth 100000 in
set_option maxHeartbeats 4000000 in
theorem needs42 (x : Wat) (P t : Nat) (A B : Option Addr) (c d : Nat) (D : Option Addr) (cs : Nat) (w : World) (hx : WatOk x) (hR : Run w P x A B c d D cs) (ht : t < x.hb.length) :
    Calls Try.prog 42 #[.pointer (some ⟨P, 0, none⟩), I t] w fun e w' => e = .returned (U64 (setN (needP x t))) ∧ Below w.heap.size w w' := by
  have hn6 : x.hb.length ≤ 6 := hx.n6
  have hm64 : x.er.length ≤ 64 := hx.m64
  have HRR : Hid (∀ W, Below w.heap.size w W → Run W P x A B c d D cs) := Lib.hid fun W hB => hR.call hB
  have HER : Hid (∀ k (h : k < x.er.length), x.er[k].1 = x.sp k ∧ x.er[k].2 = x.tm k) := Lib.hid fun k h => by rw [er_get x h]; exact ⟨rfl, rfl⟩
  have HTM : Hid (∀ k, k < x.er.length → 0 ≤ x.tm k ∧ x.tm k ≤ 1048576) := Lib.hid fun k hk => by
    have h1 := (hx.eru k hk).tm
    have h2 := hx.en
    omega
  have HOW : Hid (∀ j (h : j < (own x t).length), (own x t)[j] < x.er.length) := Lib.hid fun j h => (own_at_ h).1
  have HNA : Hid (∀ j (h : j < (own x t).length), needB x (own x t)[j] = (decide (0 < j) && !inB (x.tm (own x t)[j] - x.tm ((own x t).getD (j - 1) 0)) (x.ol t) (x.oh t))) := Lib.hid fun j h => need_at h
  have HST : Hid (∀ j (h : j < (own x t).length), setN (needK x t (j + 1)) = if needB x (own x t)[j] then setN (needK x t j) ||| setN (fun i => i == (own x t)[j]) else setN (needK x t j)) := Lib.hid fun j h => needS_step h
  have HLT : Hid (∀ j, setN (needK x t j) < 18446744073709551616) := Lib.hid fun j => setN_lt _
  have HEND : Hid (setN (needK x t (own x t).length) = setN (needP x t)) := Lib.hid (setN_congr fun i _ => needK_all x t i)
  have HZ0 : Hid (setN (needK x t 0) = 0) := Lib.hid (setN_zero.2 fun i _ => by simp [needK])
  have hol : (own x t).length ≤ 64 := by have := own_len x t x.m; have h2 : x.m ≤ 64 := hm64; unfold own; omega
  have H48 : Hid (∀ (z : Int) (W : World), Calls Try.prog 48 #[.agg #[I (x.ol t), I (x.oh t)], I z] W fun e w' => e = .returned (.bool (inB z (x.ol t) (x.oh t))) ∧ Below W.heap.size W w') := Lib.hid fun z W => has48 _ _ _ W
  obtain ⟨S, O, oc, hD, hS, s0, s1, s2, s3, s4, hO⟩ := hR.spr t ht
  subst hD
  have HO := Lib.hid hO
  have c3 := hR.sp0
  have HI : Hid ((own x t).length = ((own x t).map fun i : Nat => (i : Int)).length) := Lib.hid (by simp)
  have HOG : Hid (∀ (j : Nat) (h : j < (own x t).length), ((own x t).map fun i : Nat => (i : Int))[j]'(by simpa using h) = ((own x t)[j] : Nat)) := Lib.hid fun j h => by simp
  rw [← HEND.out]
  have HSA : Hid (Box (w.alloc (.cells #[I (x.ol t), I (x.oh t), I (x.dl t), I (x.dh t), .slice O (own x t).length oc] 90)) w.heap.size [I (x.ol t), I (x.oh t), I (x.dl t), I (x.dh t), .slice O (own x t).length oc]) := Lib.hid (Box.new w [I (x.ol t), I (x.oh t), I (x.dl t), I (x.dh t), .slice O (own x t).length oc] 90)
  have HBA : Hid (Below w.heap.size w (w.alloc (.cells #[I (x.ol t), I (x.oh t), I (x.dl t), I (x.dh t), .slice O (own x t).length oc] 90))) := Lib.hid (below1 _ _)
  have hza : (w.alloc (.cells #[I (x.ol t), I (x.oh t), I (x.dl t), I (x.dh t), .slice O (own x t).length oc] 90)).heap.size = w.heap.size + 1 := by simp
  have hPw := hR.lt
  clear hx hR hO HEND
  have t0 : (0 : Int) ≤ (t : Int) := by omega
  have t1 : (t : Int) < (x.hb.length : Int) := by omega
  go_enter Try.func42, Try.ntmps42
  go_wp2_with (fail)
  clear c3 s0 s1 s2 s3 s4
  generalize x.ol t = o4 at *
  generalize x.oh t = o5 at *
  generalize x.dl t = o6 at *
  generalize x.dh t = o7 at *
  generalize w.alloc (.cells #[I o4, I o5, I o6, I o7, .slice O (own x t).length oc] 90) = wa at *
  go_loopw [4, 18] (fun s4 s18 wr => ∃ j : Nat, j ≤ (own x t).length ∧ s18 = I j ∧ s4 = U64 (setN (needK x t j)) ∧ Below wa.heap.size wa wr) (fun _ s _ => (own x t).length - (intOf s).toNat)
  case atStart => exact ⟨0, by omega, rfl, by rw [HZ0.out]; rfl, Below.refl _ _⟩
  case round =>
    obtain ⟨j, hj, rfl, rfl, hB⟩ := hrel
    have hzr := hB.size
    have hBw : Below w.heap.size w wr := HBA.out.trans (hB.mono (by omega))
    have hlS := HLT.out j
    by_cases hlt : j < (own x t).length
    · have HRr := Lib.hid (HRR.out _ hBw)
      have c1 := HRr.out.er0
      have hil := HOW.out j hlt
      have HNj := Lib.hid (HNA.out j hlt)
      have HSj := Lib.hid (HST.out j hlt)
      obtain ⟨ob, oo, hOe, hoz, hoc⟩ := (HO.out.below hBw) (by rw [← HI.out]; omega)
      subst hOe
      have ro := hoc j (by rw [← HI.out]; exact hlt)
      rw [HOG.out j hlt] at ro
      have HSR := Lib.hid (HSA.out.call hB)
      obtain ⟨y4, _⟩ := HSR.out.at_ 4 _ rfl
      have p0 : (0 : Int) ≤ (j : Int) := by omega
      have p1 : (j : Int) < ((own x t).length : Int) := by omega
      by_cases hj0 : 0 < j
      · have hj1 : j - 1 < (own x t).length := by omega
        have hil1 := HOW.out (j - 1) hj1
        have ro1 := hoc (j - 1) (by rw [← HI.out]; exact hj1)
        rw [HOG.out (j - 1) hj1] at ro1
        have HGD : Hid ((own x t).getD (j - 1) 0 = (own x t)[j - 1]) := Lib.hid (by simp [List.getD, hj1])
        rw [HGD.out] at HNj
        obtain ⟨eb, eo, hBe, hez, hec⟩ := HRr.out.wat.er (by omega)
        subst hBe
        obtain ⟨_, m0⟩ := hec _ hil
        obtain ⟨_, m1⟩ := hec _ hil1
        rw [(HER.out _ hil).2] at m0
        rw [(HER.out _ hil1).2] at m1
        have b0 := HTM.out _ hil
        have b1 := HTM.out _ hil1
        clear hec hoc HGD
        generalize (own x t)[j - 1] = i1 at *
        generalize (own x t)[j] = i at *
        generalize x.tm i1 = v1 at *
        generalize x.tm i = v0 at *
        obtain ⟨j1, hj1e⟩ : ∃ j1, j1 = j - 1 := ⟨_, rfl⟩
        rw [← hj1e] at ro1
        have hsub : IntKind.i64.wrap ((j : Int) - 1) = (j1 : Int) := by rw [IntWalk.i64_in _ (by omega)]; omega
        have hwv : IntKind.i64.wrap (v0 - v1) = v0 - v1 := IntWalk.i64_in _ (by omega)
        have p2 : (0 : Int) ≤ (j1 : Int) := by omega
        have p3 : (j1 : Int) < ((own x t).length : Int) := by omega
        have p4 : (0 : Int) ≤ (i : Int) := by omega
        have p5 : (i : Int) < (x.er.length : Int) := by omega
        have p6 : (0 : Int) ≤ (i1 : Int) := by omega
        have p7 : (i1 : Int) < (x.er.length : Int) := by omega
        have p8 : (0 : Int) < (j : Int) := by omega
        clear hj1e
        have HEQ : Hid (needB x i = !inB (v0 - v1) o4 o5) := Lib.hid (by rw [HNj.out, decide_eq_true hj0, Bool.true_and])
        have H48v : Hid (∀ W : World, Calls Try.prog 48 #[.agg #[I o4, I o5], I (v0 - v1)] W fun e w' => e = .returned (.bool (inB (v0 - v1) o4 o5)) ∧ Below W.heap.size W w') := Lib.hid fun W => H48.out _ W
        clear HNj
        rw [HEQ.out] at HSj
        generalize inB (v0 - v1) o4 o5 = hb at *
        have HCX : Hid (∀ W, Below wr.heap.size wr W → Box W w.heap.size [I o4, I o5, I o6, I o7, .slice (some ⟨ob, oo, none⟩) (own x t).length oc] ∧ W.cell? ⟨P, 1, none⟩ = some (.slice (some ⟨eb, eo, none⟩) x.er.length d) ∧ W.cell? ⟨eb, eo + i * 2 + 1, none⟩ = some (I v0) ∧ W.cell? ⟨eb, eo + i1 * 2 + 1, none⟩ = some (I v1) ∧ W.cell? ⟨ob, oo + j1, none⟩ = some (I i1)) := Lib.hid fun W hW =>
          ⟨HSR.out.call hW, (HRr.out.call hW).er0, (hW.cell (p := ⟨eb, _, none⟩) hez).trans m0, (hW.cell (p := ⟨eb, _, none⟩) hez).trans m1, (hW.cell (p := ⟨ob, _, none⟩) (show ob < _ by omega)).trans ro1⟩
        go_wp2_with (fail)
        refine (wpIn_wide (n := 9)).1 ?_
        refine wpIn_region_valsB [some 23, some 24, some 25, some 26, some 27, some 28, some 29, some 30, some 31, some 32, some 33, some 34, some 35, some 36, some 37, some 38, some 39, some 40, some 41, some 42, some 43, some 44, some 45, some 46, some 47, some 48, some 49, some 50, some 51, some 52, some 53, some 54, some 55]
          (nthV [I j, .bool true, .bool true, .pointer (some ⟨w.heap.size, 0, none⟩), .pointer (some ⟨w.heap.size, 0, none⟩), .agg #[I o4, I o5], .pointer (some ⟨P, 0, none⟩), .pointer (some ⟨P, 0, none⟩), .pointer (some ⟨P, 0, none⟩), .pointer (some ⟨P, 1, none⟩), .slice (some ⟨eb, eo, none⟩) x.er.length d, I i, .pointer (some ⟨eb, eo + i * 2, none⟩), .pointer (some ⟨eb, eo + i * 2 + 1, none⟩), I v0, .pointer (some ⟨P, 0, none⟩), .pointer (some ⟨P, 0, none⟩), .pointer (some ⟨P, 0, none⟩), .pointer (some ⟨P, 1, none⟩), .slice (some ⟨eb, eo, none⟩) x.er.length d, .pointer (some ⟨w.heap.size, 4, none⟩), .slice (some ⟨ob, oo, none⟩) (own x t).length oc, I j, I j1, .pointer (some ⟨ob, oo + j1, none⟩), I i1, .pointer (some ⟨eb, eo + i1 * 2, none⟩), .pointer (some ⟨eb, eo + i1 * 2 + 1, none⟩), I v1, I (v0 - v1), .bool hb, .bool (!hb), .bool (!hb)])
          [(5, .pointer (some ⟨w.heap.size, 0, none⟩)), (0, .pointer (some ⟨P, 0, none⟩)), (6, I j), (7, I i)]
          (fun W => Below wr.heap.size wr W) rfl (by kernel_rfl) (fun _ => trivial) (by kernel_rfl) (by kernel_rfl) (by kernel_rfl) ⟨rfl, rfl, rfl, rfl, trivial⟩ (fun _ d _ _ _ h => by cases d <;> exact h) (by first | exact (Below.refl _ _).drew | exact (below_drewN (Below.refl _ _) _).drew) ?_ ?_
        · refine ⟨?_, ?_, ?_, ?_, ?_, ?_, ?_, ?_, ?_, ?_, ?_, ?_, ?_, ?_, ?_, ?_, ?_, ?_, ?_, ?_, ?_, ?_, ?_, ?_, ?_, ?_, ?_, ?_, ?_, ?_, ?_, ?_, ?_, trivial⟩
          all_goals (intro x0 W hC; obtain ⟨nB, n1, n2, n3, n4⟩ := HCX.out _ hC; obtain ⟨nb0, _⟩ := nB.at_ 0 _ rfl; obtain ⟨nb1, _⟩ := nB.at_ 1 _ rfl; obtain ⟨nb4, _⟩ := nB.at_ 4 _ rfl)
          all_goals first
            | (refine e_no rfl ?_; rfl)
            | (refine e_yes rfl ?_; intro b e hb K hK)
          all_goals first
            | (refine opE_li rfl hb ?_; simp only [execOp, resolve, Oper.about, envB, lookB, lookV, nthV, List.map_toArray, List.map_cons, List.map_nil, Nat.reduceEqDiff, reduceIte, Nat.succ_ne_zero, Nat.zero_ne_one, Nat.one_ne_zero, Nat.reduceAdd, Nat.zero_add]; go_simp; exact hK _ hC)
            | (refine opE_call rfl hb (fun _ => trivial) (fun h => (by cases h)) 48 #[.agg #[I o4, I o5], I (v0 - v1)] ?_ ?_
               · (simp only [execOp, resolve, Oper.about, envB, lookB, lookV, nthV, List.map_toArray, List.map_cons, List.map_nil, Nat.reduceEqDiff, reduceIte, Nat.succ_ne_zero, Nat.zero_ne_one, Nat.one_ne_zero, Nat.reduceAdd, Nat.zero_add])
                 go_simp
               · refine callsIn_wide.2 ((H48v.out _).mono ?_)
                 rintro e w6 ⟨rfl, hB6⟩
                 exact ⟨_, rfl, hK _ (hC.trans (hB6.mono hC.size))⟩)
        · (intro W hC; have HC := Lib.hid hC; clear hC; simp only [putD, nthV, Act.put, List.setIfInBounds_toArray, List.set_cons_succ, List.set_cons_zero, Nat.zero_add, Nat.reduceAdd])
          have hCo := HC.out
          clear HC
          have hB2 := hB.trans (hCo.mono (by omega))
          cases hb
          · have HSF : Hid (setN (needK x t (j + 1)) = setN (needK x t j) ||| 2 ^ i) := Lib.hid (by rw [HSj.out, setN_one (show i < 64 by omega)]; rfl)
            obtain ⟨hp1, hp2⟩ := pow_u (show i < 64 by omega)
            have hor := orU (setN (needK x t j)) (2 ^ i) hlS hp2
            rw [← HSF.out] at hor
            have hwu := wrapU (2 ^ i) hp2
            clear HSj
            obtain ⟨sj1, hs1⟩ : ∃ s, setN (needK x t (j + 1)) = s := ⟨_, rfl⟩
            rw [hs1] at HSF hor
            have HS1 := Lib.hid hs1
            clear hs1
            generalize setN (needK x t j) = sj at *
            generalize hpw : 2 ^ i = pw at *
            clear hpw
            have hi64 : (i : Int) < 64 := by omega
            go_wp2_with (fail)
            go_roundw
            case rel => first | exact ⟨j + 1, by omega, by go_num, by rw [HS1.out], hB2⟩ | ((repeat apply Exists.intro); refine ⟨?_, rfl⟩; exact ⟨j + 1, by omega, by go_num, by rw [HS1.out], hB2⟩)
            case measure => first | (simp [intOf]; done) | (simp [intOf]; omega)
          · have HSF : Hid (setN (needK x t (j + 1)) = setN (needK x t j)) := Lib.hid (by rw [HSj.out]; rfl)
            go_wp2_with (fail)
            go_roundw
            case rel => first | exact ⟨j + 1, by omega, by go_num, by rw [HSF.out], hB2⟩ | ((repeat apply Exists.intro); refine ⟨?_, rfl⟩; exact ⟨j + 1, by omega, by go_num, by rw [HSF.out], hB2⟩)
            case measure => first | (simp [intOf]; done) | (simp [intOf]; omega)
      · have hj00 : j = 0 := by omega
        have HEQ : Hid (needB x (own x t)[j] = false) := Lib.hid (by rw [HNj.out, decide_eq_false hj0, Bool.false_and])
        rw [HEQ.out] at HSj
        generalize (own x t)[j] = i at *
        have HSF : Hid (setN (needK x t (j + 1)) = setN (needK x t j)) := Lib.hid (by rw [HSj.out]; rfl)
        have p9 : (j : Int) ≤ 0 := by omega
        have p10 : decide (0 < j) = false := decide_eq_false hj0
        have HJ0 := Lib.hid hj00
        clear hj00 hoc HNj HSj hj0
        go_wp2_with (fail)
        refine (wpIn_wide (n := 9)).1 ?_
        refine wpIn_region_valsB [some 23, some 24, some 25, some 26, some 27, some 28, some 29, some 30, some 31, some 32, some 33, some 34, some 35, some 36, some 37, some 38, some 39, some 40, some 41, some 42, some 43, some 44, some 45, some 46, some 47, some 48, some 49, some 50, some 51, some 52, some 53, some 54, some 55]
          (nthV [I j, .bool false, .bool false, undef, undef, undef, undef, undef, undef, undef, undef, undef, undef, undef, undef, undef, undef, undef, undef, undef, undef, undef, undef, undef, undef, undef, undef, undef, undef, undef, undef, undef, .bool false])
          [(6, I j)]
          (fun W => Below wr.heap.size wr W) rfl (by kernel_rfl) (fun _ => trivial) (by kernel_rfl) (by kernel_rfl) (by kernel_rfl) ⟨rfl, trivial⟩ (fun _ d _ _ _ h => by cases d <;> exact h) (by first | exact (Below.refl _ _).drew | exact (below_drewN (Below.refl _ _) _).drew) ?_ ?_
        · refine ⟨?_, ?_, ?_, ?_, ?_, ?_, ?_, ?_, ?_, ?_, ?_, ?_, ?_, ?_, ?_, ?_, ?_, ?_, ?_, ?_, ?_, ?_, ?_, ?_, ?_, ?_, ?_, ?_, ?_, ?_, ?_, ?_, ?_, trivial⟩
          all_goals (intro x0 W hC; skip)
          all_goals first
            | (refine e_no rfl ?_; rfl)
            | (refine e_yes rfl ?_; intro b e hb K hK)
          all_goals first
            | (refine opE_li rfl hb ?_; simp only [execOp, resolve, Oper.about, envB, lookB, lookV, nthV, List.map_toArray, List.map_cons, List.map_nil, Nat.reduceEqDiff, reduceIte, Nat.succ_ne_zero, Nat.zero_ne_one, Nat.one_ne_zero, Nat.reduceAdd, Nat.zero_add]; go_simp; exact hK _ hC)
        · (intro W hC; have HC := Lib.hid hC; clear hC; simp only [putD, nthV, Act.put, List.setIfInBounds_toArray, List.set_cons_succ, List.set_cons_zero, Nat.zero_add, Nat.reduceAdd])
          have hCo := HC.out
          clear HC
          have hB2 := hB.trans (hCo.mono (by omega))
          go_wp2_with (fail)
          go_roundw
          case rel => first | exact ⟨j + 1, by omega, by go_num, by rw [HSF.out], hB2⟩ | ((repeat apply Exists.intro); refine ⟨?_, rfl⟩; exact ⟨j + 1, by omega, by go_num, by rw [HSF.out], hB2⟩)
          case measure => first | (simp [intOf]; done) | (simp [intOf]; omega)
    · obtain rfl : j = (own x t).length := by omega
      go_wp2_with (fail)
      go_ret
      exact ⟨rfl, hBw⟩
end Go.Proofs.Ytijgfdncocjncaa
