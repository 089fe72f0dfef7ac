/- The document's counts and sets; posts. -/
import Derived.Test.YtfebhofihioaoaaS1
namespace Go.Proofs.Ytfebhofihioaoaa
set_option linter.unusedVariables false
set_option linter.unusedSimpArgs false
open Go Go.RowKit

/-- A park as a value. -/
abbrev Prk.val (x : Prk) (A : Option Addr) (c : Nat) : Value := .agg #[.slice A x.sp.length c, I x.alo, I x.ahi]
theorem count50 (S : Nat) (w : World) (hS : S < 64) : Calls Try.prog 50 #[I S] w fun e w' => e = .returned (I (countN S)) ∧ w = w' := by
  have HC := Lib.hid (cnt_eq S)
  go_enter Try.func50, Try.ntmps50
  go_wp2_with (fail)
  go_loop [3, 4] (fun s3 s4 => ∃ k : Nat, k ≤ 6 ∧ s4 = I k ∧ s3 = I (cntTo S k)) (fun _ s => 6 - (intOf s).toNat)
  case atStart => exact ⟨0, by omega, rfl, rfl⟩
  case round =>
    obtain ⟨k, hk, rfl, rfl⟩ := hrel
    have hc := cntTo_le S k
    by_cases hlt : k < 6
    · have HN : Hid (cntTo S (k + 1) = cntTo S k + if S.testBit k then 1 else 0) := Lib.hid rfl
      have HB : Hid (∀ W, Calls Try.prog 24 #[I S, I k] W fun e w' => e = .returned (.bool (S.testBit k)) ∧ W = w') := Lib.hid fun W => bit24 S k W (by omega) (by omega)
      generalize cntTo S k = c at *
      cases hb : S.testBit k
      all_goals
        rw [hb] at HB HN
        clear hb
        go_wp2_with (first
          | (go_at_call 24; refine (HB.out _).mono ?_; rintro e w1 ⟨rfl, rfl⟩)
          | fail)
        go_round
        case rel => exact ⟨k + 1, by omega, by go_num, by rw [HN.out]; go_num⟩
        case measure => simp [intOf]; omega
    · obtain rfl : k = 6 := by omega
      go_wp2
      go_ret
      exact ⟨ret_int (by rw [HC.out]), rfl⟩
theorem sets33 (x : Prk) (A : Option Addr) (c : Nat) (w : World) (hn : x.sp.length ≤ 20) : Calls Try.prog 33 #[x.val A c] w fun e w' => e = .returned (I ((2 : Int) ^ x.sp.length)) ∧ Below w.heap.size w w' := by
  have HP : Hid (∀ k, k ≤ 20 → 0 < (2 : Int) ^ k ∧ (2 : Int) ^ k ≤ 1048576) := Lib.hid fun k hk => by
    have h1 : (2 : Nat) ^ k ≤ 2 ^ 20 := Nat.pow_le_pow_right (by decide) hk
    have h2 : 0 < (2 : Nat) ^ k := Nat.two_pow_pos k
    have h3 : ((2 ^ k : Nat) : Int) = (2 : Int) ^ k := by simp
    have h4 : (2 : Nat) ^ 20 = 1048576 := by decide
    omega
  obtain ⟨sp, alo, ahi⟩ := x
  simp only [Prk.val] at *
  go_enter Try.func33, Try.ntmps33
  go_wp2_with (fail)
  have hBz : Below w.heap.size w (w.alloc (.cells #[.slice A sp.length c, I alo, I ahi] 26)) := below1 _ _
  go_loop [3, 4] (fun s3 s4 => ∃ k : Nat, k ≤ sp.length ∧ s4 = I k ∧ s3 = I ((2 : Int) ^ k)) (fun _ s => sp.length - (intOf s).toNat)
  case atStart => exact ⟨0, by omega, rfl, rfl⟩
  case round =>
    obtain ⟨k, hk, rfl, rfl⟩ := hrel
    by_cases hlt : k < sp.length
    · obtain ⟨p0, p1⟩ := HP.out k (by omega)
      have HS : Hid ((2 : Int) ^ (k + 1) = 2 * 2 ^ k) := Lib.hid (by rw [Int.pow_succ, Int.mul_comm])
      generalize (2 : Int) ^ k = q at *
      go_wp2
      go_round
      case rel => exact ⟨k + 1, by omega, by go_num, by rw [HS.out]⟩
      case measure => simp [intOf]; omega
    · obtain rfl : sp.length = k := by omega
      obtain ⟨q, hq⟩ : ∃ q, (2 : Int) ^ sp.length = q := ⟨_, rfl⟩
      have HQ := Lib.hid hq
      rw [hq]
      clear hq
      go_wp2
      go_ret
      exact ⟨ret_int HQ.out.symm, hBz⟩
theorem span45 (a b : Int) (w : World) : Calls Try.prog 45 #[I a, I b] w fun e w' => e = .returned (.agg #[I a, I b]) ∧ Below w.heap.size w w' := by
  go_enter Try.func45, Try.ntmps45
  go_wp2
  refine bodyPost_ret (v := .agg #[I a, I b]) (by simp [results, Try.results45, go_sem]) rfl ⟨rfl, ?_⟩
  (repeat' (first | assumption | exact Below.refl _ _ | refine Below.drew ?_ | refine below_drewN ?_ _ | refine Below.setCell ?_ (by first | omega | (simp; done) | (simp; omega)) _ | refine Below.alloc ?_ (by first | omega | (simp; done) | (simp; omega)) _ | refine Below.trans ?_ (Below.mono (by assumption) (by first | omega | (simp; done) | (simp; omega)))))
/-- Posts are valid. -/
def PostsOk (x : Prk) (l : List Int) : Prop := l.length = x.n ∧ ∀ k (h : k < l.length), 0 ≤ l[k] ∧ l[k] ≤ 12
open Classical in
noncomputable def postsB (x : Prk) (l : List Int) : Bool := decide (PostsOk x l)
open Classical in
theorem postsB_iff {x : Prk} {l : List Int} : postsB x l = true ↔ PostsOk x l := by unfold postsB; exact decide_eq_true_iff
theorem bool_false {b : Bool} (h : ¬ b = true) : b = false := by cases b; rfl; exact absurd rfl h
set_option maxRecDepth 100000 in
theorem posts21 (x : Prk) (A B : Option Addr) (c d : Nat) (l : List Int) (w : World) (hl : Ints w w.heap.size B l) (hll : l.length ≤ 9223372036854775807) (hxl : x.sp.length ≤ 9223372036854775807) :
    Calls Try.prog 21 #[x.val A c, .slice B l.length d] w fun e w' => e = .returned (.bool (postsB x l)) ∧ Below w.heap.size w w' := by
  have HL := Lib.hid hl
  have HY : Hid (l.length = x.sp.length → (∀ k (h : k < l.length), 0 ≤ l[k] ∧ l[k] ≤ 12) → postsB x l = true) := Lib.hid fun h1 h2 => postsB_iff.2 ⟨h1, h2⟩
  have HN1 : Hid (l.length ≠ x.sp.length → postsB x l = false) := Lib.hid fun h => bool_false fun hb => h (postsB_iff.1 hb).1
  have HN2 : Hid (∀ k (h : k < l.length), ¬ (0 ≤ l[k] ∧ l[k] ≤ 12) → postsB x l = false) := Lib.hid fun k h1 h2 => bool_false fun hb => h2 ((postsB_iff.1 hb).2 k h1)
  generalize postsB x l = pb at *
  obtain ⟨sp, alo, ahi⟩ := x
  simp only [Prk.val] at *
  clear hl
  have hBz : Below w.heap.size w (w.alloc (.cells #[.slice A sp.length c, I alo, I ahi] 26)) := below1 _ _
  go_enter Try.func21, Try.ntmps21
  go_wp2_with (fail)
  go_loop [5] (fun s5 => ∃ k : Nat, k ≤ l.length ∧ s5 = I k ∧ Hid (∀ j (h : j < l.length), j < k → 0 ≤ l[j] ∧ l[j] ≤ 12)) (fun s => l.length - (intOf s).toNat)
  case atStart => exact ⟨0, by omega, rfl, Lib.hid fun j _ h => by omega⟩
  case round =>
    obtain ⟨k, hk, rfl, HP⟩ := hrel
    by_cases hlt : k < l.length
    · obtain ⟨lb, lo, hLe, hlz, hlc⟩ := (HL.out.below hBz) (by omega)
      subst hLe
      have l0 := hlc k hlt
      have HK := Lib.hid (HN2.out k hlt)
      have HST : Hid (0 ≤ l[k] ∧ l[k] ≤ 12 → ∀ j (h : j < l.length), j < k + 1 → 0 ≤ l[j] ∧ l[j] ≤ 12) := Lib.hid fun e j h hj => by
        rcases Nat.lt_succ_iff_lt_or_eq.1 hj with h1 | rfl
        · exact HP.out j h h1
        · exact e
      have HIN : Hid (∀ W, Calls Try.prog 32 #[I l[k], I 0, I 12] W fun e w' => e = .returned (.bool (inB l[k] 0 12)) ∧ W = w') := Lib.hid fun W => in32 _ _ _ W
      generalize l[k] = v at *
      have p0 : (0 : Int) ≤ (k : Int) := by omega
      have p1 : (k : Int) < (l.length : Int) := by omega
      clear hlc
      cases hb : inB v 0 12
      · have HF := Lib.hid (HK.out (inB_false.1 hb))
        rw [hb] at HIN
        clear hb
        go_wp2_with (first
          | (go_at_call 32; refine (HIN.out _).mono ?_; rintro e w1 ⟨rfl, rfl⟩)
          | fail)
        go_ret
        exact ⟨ret_b HF.out.symm, hBz⟩
      · have HT := Lib.hid (HST.out (inB_true.1 hb))
        rw [hb] at HIN
        clear hb
        go_wp2_with (first
          | (go_at_call 32; refine (HIN.out _).mono ?_; rintro e w1 ⟨rfl, rfl⟩)
          | fail)
        go_round
        case rel => exact ⟨k + 1, by omega, by go_num, HT⟩
        case measure => simp [intOf]; omega
    · obtain rfl : l.length = k := by omega
      by_cases hs : l.length = sp.length
      · have HT := Lib.hid (HY.out hs fun j hj => HP.out j hj hj)
        have e1 : ((l.length : Int) == (sp.length : Int)) = true := by simp [hs]
        have e2 : (l.length == sp.length) = true := by simp [hs]
        clear hs
        go_wp2
        go_ret
        exact ⟨ret_b HT.out.symm, hBz⟩
      · have HF := Lib.hid (HN1.out hs)
        have e1 : ((l.length : Int) == (sp.length : Int)) = false := by simp; omega
        have e2 : (l.length == sp.length) = false := by simpa using hs
        clear hs
        go_wp2
        go_ret
        exact ⟨ret_b HF.out.symm, hBz⟩
end Go.Proofs.Ytfebhofihioaoaa
