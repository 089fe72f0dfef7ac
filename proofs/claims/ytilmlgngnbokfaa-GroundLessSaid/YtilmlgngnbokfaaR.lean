import Derived.Test.YtilmlgngnbokfaaB
import Derived.Test.YtilmlgngnbokfaaM2
import Derived.Test.YtilmlgngnbokfaaM
namespace Go.Proofs.Ytilmlgngnbokfaa
set_option linter.unusedVariables false
set_option linter.unusedSimpArgs false
open Go.RowKit



set_option maxHeartbeats 400000 in
theorem gcd_any (a b : Int) (w : World) (ha : 0 ≤ a) (ha' : a ≤ 1000000000000000000) (hb : 0 ≤ b) (hb' : b ≤ 1000000000000000000) :
    Calls Try.prog 42 #[I a, I b] w fun e w' => e = .returned (I (gcdI a b)) ∧ Below w.heap.size w w' := by
  obtain ⟨a, rfl⟩ := Int.eq_ofNat_of_zero_le ha
  obtain ⟨b, rfl⟩ := Int.eq_ofNat_of_zero_le hb
  have hg : Hid (gcdI (a : Int) (b : Int) = (Nat.gcd a b : Nat)) := Lib.hid (by simp [gcdI])
  go_enter Try.func42, Try.ntmps42
  go_wp2
  go_loopw [0, 1] (fun s t wr => ∃ x y : Nat, s = I x ∧ t = I y ∧ x ≤ 1000000000000000000 ∧ y ≤ 1000000000000000000 ∧ Hid (Nat.gcd x y = Nat.gcd a b) ∧ Below w.heap.size w wr) (fun _ t _ => (intOf t).toNat)
  case atStart => exact ⟨a, b, rfl, rfl, by omega, by omega, Lib.hid rfl, Below.refl _ _⟩
  case round =>
    obtain ⟨x, y, rfl, rfl, hx, hy, hxy, hB⟩ := hrel
    by_cases h0 : y = 0
    · have hb0 : ((y : Int) != 0) = false := by simp [h0]
      have H0 := Lib.hid h0
      clear h0
      go_wp2
      go_ret
      have h1 := hxy.out
      rw [H0.out] at h1
      simp at h1
      exact ⟨ret_int (by rw [hg.out, ← h1]), hB⟩
    · have hb1 : ((y : Int) != 0) = true := by simp; omega
      have hm : Nat.gcd y (x % y) = Nat.gcd a b := by rw [← hxy.out, Nat.gcd_comm x y, Nat.gcd_rec y x, Nat.gcd_comm]
      have HM := Lib.hid hm
      clear hm
      have hlt := Nat.mod_lt x (Nat.pos_of_ne_zero h0)
      have hle := Nat.mod_le x y
      go_wp2
      go_quiet (fail)
      go_wp2
      go_roundw
      case rel => exact ⟨y, x % y, rfl, rfl, by omega, by omega, HM, below_drewN hB _⟩
      case measure => simp [intOf]; omega

theorem div_bd {a x : Int} (h0 : 0 ≤ a) (hx : 1 ≤ x) : 0 ≤ a / x ∧ a / x ≤ a :=
  ⟨Int.ediv_nonneg h0 (by omega), Int.ediv_le_self x h0⟩
theorem wrap_div {a x : Int} (h0 : 0 ≤ a) (h1 : a ≤ 1000000000000000000) (hx : 1 ≤ x) : wrap64 (a / x) = a / x :=
  IntWalk.wrap64_in _ (by have := div_bd h0 hx; omega)

/-- A fraction as a value. -/
abbrev Rat2 (n d : Int) : Value := .agg #[I n, I d]

set_option maxHeartbeats 400000 in
theorem ratio_any (a b : Int) (w : World) (ha : 0 ≤ a) (ha' : a ≤ 1000000000000000000) (hb : 1 ≤ b) (hb' : b ≤ 1000000000000000000) :
    Calls Try.prog 19 #[I a, I b] w fun e w' => e = .returned (Rat2 (a / gcdI a b) (b / gcdI a b)) ∧ Below w.heap.size w w' := by
  have hg : 1 ≤ gcdI a b := by
    have : 0 < Nat.gcd a.toNat b.toNat := Nat.gcd_pos_of_pos_right _ (by omega)
    unfold gcdI; omega
  have hg' : gcdI a b ≤ b := by
    have : Nat.gcd a.toNat b.toNat ≤ b.toNat := Nat.gcd_le_right _ (by omega)
    unfold gcdI; omega
  go_enter Try.func19, Try.ntmps19
  go_wp2_with (go_at_call 42; refine (gcd_any _ _ _ ha ha' (by omega) hb').mono ?_; rintro e w1 ⟨rfl, hB⟩; obtain ⟨hc, hf⟩ := bcell hB; have hz : w.heap.size < w1.heap.size := by have := hB.size; simp at this; omega)
  go_region
  all_goals
    go_wp2
    refine bodyPost_ret (v := Rat2 (a / gcdI a b) (b / gcdI a b)) ?_ rfl ⟨rfl, ?_⟩
    · simp [results, Try.results19, go_sem, hc, hf, hz]
    · exact ((((below1 w _).trans (hB.mono (by simp))).setCell (by simp) _).setCell (by simp) _).drew

theorem lowest_any (n d : Int) (w : World) (hn : 0 ≤ n) (hn' : n ≤ 1000000000000000000) (hd : 1 ≤ d) (hd' : d ≤ 1000000000000000000) :
    Calls Try.prog 66 #[Rat2 n d] w fun e w' => e = .returned (Rat2 (n / gcdI n d) (d / gcdI n d)) ∧ Below w.heap.size w w' := by
  obtain ⟨a, rfl⟩ := Int.eq_ofNat_of_zero_le hn
  obtain ⟨b, rfl⟩ := Int.eq_ofNat_of_zero_le (show 0 ≤ d by omega)
  have hg : Hid (gcdI (a : Int) (b : Int) = (Nat.gcd a b : Nat)) := Lib.hid (by simp [gcdI])
  have hg1 : 0 < Nat.gcd a b := Nat.gcd_pos_of_pos_right _ (by omega)
  go_enter Try.func66, Try.ntmps66
  go_wp2
  go_quiet (fail)
  go_wp2
  go_loopw [3, 4] (fun s t wr => ∃ x y k : Nat, s = I x ∧ t = I y ∧ x ≤ 1000000000000000000 ∧ y ≤ 1000000000000000000 ∧ Hid (Nat.gcd x y = Nat.gcd a b) ∧ wr = World.drewN ((w.alloc (.cells #[I a, I b] 67)).alloc (.cells #[I 0, I 0] 67)) k) (fun _ t _ => (intOf t).toNat)
  case atStart => exact ⟨a, b, _, rfl, rfl, by omega, by omega, Lib.hid rfl, rfl⟩
  case round =>
    obtain ⟨x, y, k, rfl, rfl, hx, hy, hxy, rfl⟩ := hrel
    by_cases h0 : y = 0
    · have hb0 : ((y : Int) != 0) = false := by simp [h0]
      have H0 := Lib.hid h0
      clear h0
      have h1 := hxy.out
      rw [H0.out] at h1
      simp at h1
      have H1 := Lib.hid h1
      have hx1 : 1 ≤ x := by omega
      clear h1
      go_wp2
      go_region
      all_goals
        go_wp2
        refine bodyPost_ret (v := Rat2 ((a : Int) / gcdI a b) ((b : Int) / gcdI a b)) ?_ rfl ⟨rfl, ?_⟩
        · rw [hg.out, ← H1.out]
          simp [results, Try.results66, go_sem, wrap_div (show (0 : Int) ≤ a by omega) (show (a : Int) ≤ 1000000000000000000 by omega) (show (1 : Int) ≤ x by omega), wrap_div (show (0 : Int) ≤ b by omega) (show (b : Int) ≤ 1000000000000000000 by omega) (show (1 : Int) ≤ x by omega)]
        · (repeat' (first | assumption | exact Below.refl _ _ | refine Below.drew ?_ | refine below_drewN ?_ _ | refine Below.setCell ?_ (by first | omega | (simp; done) | (simp; omega)) _ | refine Below.alloc ?_ (by first | omega | (simp; done) | (simp; omega)) _ | refine Below.trans ?_ (Below.mono (by assumption) (by first | omega | (simp; done) | (simp; omega)))))
    · have hb1 : ((y : Int) != 0) = true := by simp; omega
      have hm : Nat.gcd y (x % y) = Nat.gcd a b := by rw [← hxy.out, Nat.gcd_comm x y, Nat.gcd_rec y x, Nat.gcd_comm]
      have HM := Lib.hid hm
      clear hm
      have hlt := Nat.mod_lt x (Nat.pos_of_ne_zero h0)
      have hle := Nat.mod_le x y
      go_wp2
      go_quiet (fail)
      go_wp2
      go_roundw
      case rel => exact ⟨y, x % y, _, rfl, rfl, by omega, by omega, HM, World.drewN_drewN _ _ _⟩
      case measure => simp [intOf]; omega

set_option maxHeartbeats 400000 in
theorem compare_any (n d m e : Int) (w : World) (hn : 0 ≤ n * e) (hn' : n * e ≤ 1000000000000000000) (hm : 0 ≤ m * d) (hm' : m * d ≤ 1000000000000000000) :
    Calls Try.prog 64 #[Rat2 n d, Rat2 m e] w fun r w' => r = .returned (I (cmpI (n * e) (m * d))) ∧ Below w.heap.size w w' := by
  go_enter Try.func64, Try.ntmps64
  go_wp2
  all_goals
    go_ret
    refine ⟨ret_int ?_, ?_⟩
    · simp [cmpI]; omega
    · (repeat' (first | assumption | exact Below.refl _ _ | refine Below.drew ?_ | refine below_drewN ?_ _ | refine Below.setCell ?_ (by first | omega | (simp; done) | (simp; omega)) _ | refine Below.alloc ?_ (by first | omega | (simp; done) | (simp; omega)) _ | refine Below.trans ?_ (Below.mono (by assumption) (by first | omega | (simp; done) | (simp; omega)))))

set_option maxHeartbeats 400000 in
theorem plus_any (n d m e : Int) (w : World) (h1 : 0 ≤ n * e) (h1' : n * e ≤ 100000000000000000) (h2 : 0 ≤ m * d) (h2' : m * d ≤ 100000000000000000) (h3 : 1 ≤ d * e) (h3' : d * e ≤ 100000000000000000) :
    Calls Try.prog 65 #[Rat2 n d, Rat2 m e] w fun r w' => r = .returned (Rat2 (plusR n d m e).1 (plusR n d m e).2) ∧ Below w.heap.size w w' := by
  by_cases hz : n = 0 ∧ d = 1
  · obtain ⟨rfl, rfl⟩ := hz
    go_enter Try.func65, Try.ntmps65
    go_wp2
    refine bodyPost_ret (v := Rat2 m e) ?_ rfl ⟨by simp [plusR], ?_⟩
    · simp [results, Try.results65, go_sem]
    · (repeat' (first | assumption | exact Below.refl _ _ | refine Below.drew ?_ | refine below_drewN ?_ _ | refine Below.setCell ?_ (by first | omega | (simp; done) | (simp; omega)) _ | refine Below.alloc ?_ (by first | omega | (simp; done) | (simp; omega)) _ | refine Below.trans ?_ (Below.mono (by assumption) (by first | omega | (simp; done) | (simp; omega)))))
  · by_cases hz2 : m = 0 ∧ e = 1
    · obtain ⟨rfl, rfl⟩ := hz2
      have hp : plusR n d 0 1 = (n, d) := by unfold plusR; rw [if_neg hz, if_pos ⟨rfl, rfl⟩]
      have HP := Lib.hid hp
      clear hp
      go_enter Try.func65, Try.ntmps65
      go_wp2
      all_goals
        refine bodyPost_ret (v := Rat2 n d) ?_ rfl ⟨by rw [HP.out], ?_⟩
        · simp [results, Try.results65, go_sem, *]
        · (repeat' (first | assumption | exact Below.refl _ _ | refine Below.drew ?_ | refine below_drewN ?_ _ | refine Below.setCell ?_ (by first | omega | (simp; done) | (simp; omega)) _ | refine Below.alloc ?_ (by first | omega | (simp; done) | (simp; omega)) _ | refine Below.trans ?_ (Below.mono (by assumption) (by first | omega | (simp; done) | (simp; omega)))))
    · have hp : plusR n d m e = ((n * e + m * d) / gcdI (n * e + m * d) (d * e), (d * e) / gcdI (n * e + m * d) (d * e)) := by unfold plusR; rw [if_neg hz, if_neg hz2]
      have HP := Lib.hid hp
      clear hp
      go_enter Try.func65, Try.ntmps65
      go_wp2_with (go_at_call 66; refine (lowest_any _ _ _ (by omega) (by omega) h3 (by omega)).mono ?_; rintro r w1 ⟨rfl, hB⟩; obtain ⟨hc, hf⟩ := bcell hB; have hz : w.heap.size + 3 < w1.heap.size := by have := hB.size; simp at this; omega)
      all_goals
        refine bodyPost_ret (v := Rat2 ((n * e + m * d) / gcdI (n * e + m * d) (d * e)) ((d * e) / gcdI (n * e + m * d) (d * e))) ?_ rfl ⟨by rw [HP.out], ?_⟩
        · simp [results, Try.results65, go_sem, *]
        · (repeat' (first | assumption | exact Below.refl _ _ | refine Below.drew ?_ | refine below_drewN ?_ _ | refine Below.setCell ?_ (by first | omega | (simp; done) | (simp; omega)) _ | refine Below.alloc ?_ (by first | omega | (simp; done) | (simp; omega)) _ | refine Below.trans ?_ (Below.mono (by assumption) (by first | omega | (simp; done) | (simp; omega)))))
end Go.Proofs.Ytilmlgngnbokfaa
