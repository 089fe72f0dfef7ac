/- The iterator over the springs from which a link holds. -/
import Derived.Test.YtijgfdncocjncaaS5
import Derived.RangeFuncNested
import Derived.RangeFuncBound
import Derived.RangeFuncCalls
import Derived.RangeFuncLeaves
import Derived.Shelf.Abstract
import Derived.OwnWalkIn
import Derived.TacticsInMore
import Derived.LoopNIn
import Derived.LoopIn
namespace Go.Proofs.Ytijgfdncocjncaa
set_option linter.unusedVariables false
set_option linter.unusedSimpArgs false
open Go Go.RowKit Go.Shelf

attribute [local go_sem] Oper.semAt_some

def uptoF (N k : Nat) : List (Fin N) := (List.finRange N).take k
theorem uptoF_len {N k : Nat} (h : k ≤ N) : (uptoF N k).length = k := by simp [uptoF]; omega
theorem uptoF_succ {N k : Nat} (h : k < N) : uptoF N (k + 1) = uptoF N k ++ [⟨k, h⟩] := by
  unfold uptoF
  rw [List.take_succ_eq_append_getElem (by simpa using h)]
  simp
theorem uptoF_all (N : Nat) : uptoF N N = List.finRange N := by
  unfold uptoF
  rw [List.take_of_length_le (by simp)]
def encS (x : Wat) (t : Nat) (y : Fin (srcs x t).length) : Value := .agg #[I (srcs x t)[y], U64 (setN (expP x (srcs x t)[y] t))]
theorem srcs_split {x : Wat} {t k : Nat} (hk : k < x.n) (h : (k != t && (ref x k t).isNone) = true) : ∃ r, srcs x t = srcTo x t k ++ k :: r := by
  have key : ∀ d, ∃ r, srcTo x t (k + 1 + d) = srcTo x t k ++ k :: r := fun d => by
    induction d with
    | zero =>
      refine ⟨[], ?_⟩
      rw [Nat.add_zero, srcTo_succ, h]
      rfl
    | succ d ih =>
      obtain ⟨r, hr⟩ := ih
      refine ⟨r ++ if k + 1 + d != t && (ref x (k + 1 + d) t).isNone then [k + 1 + d] else [], ?_⟩
      rw [← Nat.add_assoc, srcTo_succ, hr]
      simp
  obtain ⟨r, hr⟩ := key (x.n - (k + 1))
  rw [show k + 1 + (x.n - (k + 1)) = x.n by omega] at hr
  exact ⟨r, hr⟩
theorem srcs_at {x : Wat} {t k : Nat} (hk : k < x.n) (h : (k != t && (ref x k t).isNone) = true) : ∃ hm : (srcTo x t k).length < (srcs x t).length, (srcs x t)[(srcTo x t k).length] = k ∧ (srcTo x t (k + 1)).length = (srcTo x t k).length + 1 := by
  obtain ⟨r, hr⟩ := srcs_split hk h
  have hm : (srcTo x t k).length < (srcs x t).length := by rw [hr]; simp
  refine ⟨hm, ?_, ?_⟩
  · have h5 : (srcs x t)[(srcTo x t k).length]? = some k := by
      rw [hr]
      simp
    rw [List.getElem?_eq_getElem hm] at h5
    exact Option.some.inj h5
  · rw [srcTo_succ, h]
    simp
theorem srcs_skip {x : Wat} {t k : Nat} (h : (k != t && (ref x k t).isNone) = false) : (srcTo x t (k + 1)).length = (srcTo x t k).length := by
  rw [srcTo_succ, h]
  simp

set_option maxRecDepth 100000 in
set_option maxHeartbeats 2000000 in
theorem sources57_in (F : Fence) (n : Nat) (h57 : F.fn 57) (h31 : ∀ W args R, Calls Try.prog 31 args W R → CallsIn F (n - 1) Try.prog 31 args W R) (hf31 : F.fn 31) (hro : F.round = none) (hn : 1 ≤ n) (x : Wat) (P t : Nat) (A B : Option Addr) (c d : Nat) (D : Option Addr) (cs : Nat) (w0 : World) (hx : WatOk x) (hR : Run w0 P x A B c d D cs) (ht : t < x.hb.length)
    (lp Bp Bt n₀ : Nat) (S0 : Nat → Prop) (z0 : w0.heap.size ≤ n₀ ∧ ∀ k, S0 k → w0.heap.size ≤ k) (z1 : Bp < n₀ ∧ ¬ S0 Bp) (z2 : Bt < n₀ ∧ ¬ S0 Bt)
    (J Jx : List (Fin (srcs x t).length) → World → Prop)
    (hY : ∀ pre y W, J pre W → pre.length < (srcs x t).length → YieldAt F (n - 1) Try.prog lp #[encS x t y] W fun e W' =>
      (e = .returned (.bool true) ∧ J (pre ++ [y]) W' ∧ Frm n₀ S0 W W') ∨ (e = .returned (.bool false) ∧ Jx (pre ++ [y]) W'))
    (hJ : ∀ pre W W', Below W.heap.size W W' → J pre W → J pre W')
    (W : World) (hz : n₀ ≤ W.heap.size) (hB0 : Below w0.heap.size w0 W) (c0 : W.cell? ⟨Bp, 0, none⟩ = some (.pointer (some ⟨P, 0, none⟩))) (c1 : W.cell? ⟨Bt, 0, none⟩ = some (I t)) (h0 : J [] W) :
    CallsIn F n Try.prog 57 #[.func (.yield lp) #[] #[], .pointer (some ⟨Bp, 0, none⟩), .pointer (some ⟨Bt, 0, none⟩)] W fun e W' => (∃ v, e = .returned v) ∧
      ((∃ ys, ys = List.finRange (srcs x t).length ∧ J ys W') ∨ (∃ pre : List (Fin (srcs x t).length), True ∧ Jx pre W')) := by
  have hn6 : x.hb.length ≤ 6 := hx.n6
  have HY := Lib.hid hY
  have HJ := Lib.hid hJ
  have HRB : Hid (∀ W', Frm n₀ S0 W W' → Below w0.heap.size w0 W' ∧ Run W' P x A B c d D cs) := Lib.hid fun W' h => by
    have hb := hB0.trans (h.below z0.1 fun k hk hs => absurd (z0.2 k hs) (by omega))
    exact ⟨hb, hR.call hb⟩
  have H31 : Hid (∀ W', Run W' P x A B c d D cs → ∀ f, f < x.hb.length → CallsIn F (n - 1) Try.prog 31 #[.pointer (some ⟨P, 0, none⟩), .agg #[I f, I t]] W' fun e w' => e = .returned (.tuple #[U64 (setN (expP x f t)), I (optI (ref x f t))]) ∧ Below W'.heap.size W' w') := Lib.hid fun W' h f hf => h31 _ _ _ (explained31 x P f t A B c d D cs W' hx h hf ht)
  have HSA : Hid (∀ k, k < x.hb.length → (k != t && (ref x k t).isNone) = true → ∃ hm : (srcTo x t k).length < (srcs x t).length, (srcs x t)[(srcTo x t k).length] = k ∧ (srcTo x t (k + 1)).length = (srcTo x t k).length + 1) := Lib.hid fun k hk h => srcs_at hk h
  have HSE : Hid (srcTo x t x.hb.length = srcs x t) := Lib.hid rfl
  have HSL : Hid (∀ k, k ≤ x.hb.length → (srcTo x t k).length ≤ (srcs x t).length) := Lib.hid fun k hk => by
    unfold srcs srcTo
    refine List.Sublist.length_le (List.Sublist.filter _ ?_)
    have e : List.range k = (List.range x.n).take k := by
      rw [List.take_range, Nat.min_eq_left (show k ≤ x.n from hk)]
    rw [e]
    exact List.take_sublist _ _
  clear hY hJ hR
  refine callsIn_of_wp Try.func57 rfl h57 ?_ hro
  simp only [Try.ntmps57, List.size_toArray, List.length_cons, List.length_nil, Nat.reduceAdd, Nat.reduceSub, Array.replicate_succ, Array.replicate_zero, List.push_toArray, List.append_toArray, List.nil_append, List.cons_append]
  have d0 := (HRB.out W (Frm.refl _ _ _)).2.sp0
  gi_wp2
  gi_loopw [12] (fun p wr => ∃ k : Nat, k ≤ x.hb.length ∧ p = I k ∧ J (uptoF (srcs x t).length (srcTo x t k).length) wr ∧ Frm n₀ S0 W wr)
    (fun p wr => x.hb.length - (intOf p).toNat)
  case atStart =>
    exact ⟨0, Nat.zero_le _, rfl, h0, Frm.refl _ _ _⟩
  case round =>
    obtain ⟨k, hk, rfl, hJ, hF⟩ := hrel
    by_cases hlt : k < x.hb.length
    · have e0 := (hF.cell z1.1 z1.2).trans c0
      have e1 := (hF.cell z2.1 z2.2).trans c1
      obtain ⟨hBr, hRr⟩ := HRB.out _ hF
      have H31k := Lib.hid (H31.out _ hRr k hlt)
      have hzr := hF.size
      have p0 : (0 : Int) ≤ (k : Int) := by omega
      have p1 : (k : Int) < (x.hb.length : Int) := by omega
      clear hRr d0
      by_cases hkt : k = t
      · have HSK : Hid ((srcTo x t (k + 1)).length = (srcTo x t k).length) := Lib.hid (srcs_skip (by simp [hkt]))
        subst hkt
        gi_wp2
        go_roundw
        case rel => exact ⟨k + 1, by omega, by go_num, by rw [HSK.out]; exact hJ, hF⟩
        case measure => simp [intOf]; omega
      · have hkt2 : ¬ (k : Int) = (t : Int) := by omega
        have HSAk := Lib.hid (HSA.out k hlt)
        have HSKk : Hid ((k != t && (ref x k t).isNone) = false → (srcTo x t (k + 1)).length = (srcTo x t k).length) := Lib.hid fun h => srcs_skip h
        have HML := Lib.hid (HSL.out k hk)
        have hktb : (k != t) = true := by simpa using hkt
        rw [hktb, Bool.true_and] at HSAk HSKk
        cases hrf : ref x k t with
        | some a =>
          rw [hrf] at H31k HSKk
          have HSK := Lib.hid (HSKk.out rfl)
          have HJk := Lib.hid fun W' h => HJ.out _ wr W' h hJ
          have HFk : Hid (∀ W', Below wr.heap.size wr W' → Frm n₀ S0 W W') := Lib.hid fun W' h => hF.then_ h (by omega)
          clear hrf HSAk HSKk hJ
          have hna : ¬ (a : Int) < 0 := by omega
          generalize setN (expP x k t) = sk at *
          dsimp only [optI] at H31k
          gi_wp2_with (first | (gi_at_call 31; refine (H31k.out).mono ?_; rintro e w3 ⟨rfl, hB3⟩) | fail)
          refine ⟨fun _ h => (by cases h), ?_⟩
          gi_wp2
          go_roundw
          case rel => exact ⟨k + 1, by omega, by go_num, by rw [HSK.out]; exact HJk.out _ hB3, HFk.out _ hB3⟩
          case measure => simp [intOf]; omega
        | none =>
          rw [hrf] at H31k HSAk
          obtain ⟨hm, hg1, hg2⟩ := HSAk.out rfl
          have HJk := Lib.hid fun W' h => HJ.out _ wr W' h hJ
          have HFk : Hid (∀ W', Below wr.heap.size wr W' → Frm n₀ S0 W W') := Lib.hid fun W' h => hF.then_ h (by omega)
          have HYk : Hid (∀ W', Below wr.heap.size wr W' → YieldAt F (n - 1) Try.prog lp #[.agg #[I k, U64 (setN (expP x k t))]] W' fun e W'' =>
              (e = .returned (.bool true) ∧ J (uptoF (srcs x t).length (srcTo x t (k + 1)).length) W'' ∧ Frm n₀ S0 W' W'') ∨ (e = .returned (.bool false) ∧ Jx (uptoF (srcs x t).length (srcTo x t (k + 1)).length) W'')) := Lib.hid fun W' h => by
            have := HY.out _ ⟨_, hm⟩ W' (HJk.out _ h) (by rw [uptoF_len HML.out]; exact hm)
            rw [hg2, uptoF_succ hm]
            have e1 : encS x t ⟨_, hm⟩ = .agg #[I k, U64 (setN (expP x k t))] := by unfold encS; simp only [Fin.getElem_fin, hg1]
            rwa [e1] at this
          clear hrf HSAk HSKk hJ hg1 hg2
          generalize setN (expP x k t) = sk at *
          dsimp only [optI] at H31k
          gi_wp2_with (first | (gi_at_call 31; refine (H31k.out).mono ?_; rintro e w3 ⟨rfl, hB3⟩; obtain ⟨fn, tmps, assign, body, hy, hR⟩ := HYk.out _ hB3; replace hR := Lib.hid hR) | fail)
          refine hR.out.mono ?_
          rintro e W3 (⟨rfl, hJ3, hk3⟩ | ⟨rfl, hJx3⟩)
          · gi_wp2
            go_roundw
            case rel => exact ⟨k + 1, by omega, by go_num, hJ3, (HFk.out _ hB3).trans hk3⟩
            case measure => simp [intOf]; omega
          · gi_wp2
            refine bodyPost_ret (results_none rfl _ _ _) rfl ?_
            exact ⟨⟨_, rfl⟩, .inr ⟨_, trivial, hJx3⟩⟩
    · gi_wp2
      go_end0
      obtain rfl : k = x.hb.length := by omega
      rw [HSE.out] at hJ
      exact ⟨⟨_, rfl⟩, .inl ⟨_, uptoF_all _, hJ⟩⟩
end Go.Proofs.Ytijgfdncocjncaa
