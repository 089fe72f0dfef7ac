/- The document's For: how many rangers can come to a set. -/
import Derived.Test.YtfebhofihioaoaaS7
import Derived.Test.YtfebhofihioaoaaS4
namespace Go.Proofs.Ytfebhofihioaoaa
set_option linter.unusedVariables false
set_option linter.unusedSimpArgs false
open Go Go.RowKit

/-- Can one come from post i to one of the first spots of a set? -/
def anyT (S m i : Nat) : Nat → Bool
  | 0 => S.testBit i
  | j + 1 => anyT S m i j || (S.testBit j && m.testBit j)
theorem anyT_iff (S m i : Nat) : ∀ j, anyT S m i j = true ↔ S.testBit i = true ∨ ∃ s, s < j ∧ S.testBit s = true ∧ m.testBit s = true
  | 0 => by simp [anyT]
  | j + 1 => by
    simp only [anyT, Bool.or_eq_true, Bool.and_eq_true, anyT_iff S m i j]
    constructor
    · rintro ((h | ⟨s, h1, h2⟩) | h)
      · exact .inl h
      · exact .inr ⟨s, by omega, h2⟩
      · exact .inr ⟨j, by omega, h⟩
    · rintro (h | ⟨s, h1, h2⟩)
      · exact .inl (.inl h)
      · rcases Nat.lt_succ_iff_lt_or_eq.1 h1 with h3 | rfl
        · exact .inl (.inr ⟨s, h3, h2⟩)
        · exact .inr h2
theorem anyT_can (x : Prk) (S : Nat) {i : Nat} (hi : i < x.n) : anyT S (x.ne i).toNat i x.n = canB x.n (frX x) S i := by
  rw [Bool.eq_iff_iff, anyT_iff, canB_iff]
  constructor
  · rintro (h | ⟨s, h1, h2, h3⟩)
    · exact ⟨i, hi, h, by simp [frX]⟩
    · exact ⟨s, h1, h2, by simp [frX, h3]⟩
  · rintro ⟨s, h1, h2, h3⟩
    simp only [frX, Bool.or_eq_true, beq_iff_eq] at h3
    rcases h3 with rfl | h3
    · exact .inl h2
    · exact .inr ⟨s, h1, h2, h3⟩
/-- The rangers for a set, of the first posts. -/
def forTo (x : Prk) (p : Nat → Int) (S k : Nat) : Int := sumN (fun i => if canB x.n (frX x) S i then p i else 0) k
theorem forTo_bd {x : Prk} (hn : x.n ≤ 6) {p : Nat → Int} (hp : ∀ i, i < x.n → 0 ≤ p i ∧ p i ≤ 12) (S : Nat) : ∀ k, k ≤ x.n → 0 ≤ forTo x p S k ∧ forTo x p S k ≤ 12 * k
  | 0, _ => by simp [forTo, sumN]
  | k + 1, h => by
    have ih := forTo_bd hn hp S k (by omega)
    have := hp k (by omega)
    unfold forTo at ih ⊢
    simp only [sumN]
    split <;> omega
theorem near_lt {x : Prk} (hx : PrkOk x) {i : Nat} (hi : i < x.n) : x.ne i = ((x.ne i).toNat : Int) ∧ (x.ne i).toNat < 64 := by
  have h1 := hx.near i hi
  have h2 := pow_n hx.n6
  omega
set_option maxRecDepth 100000 in
set_option maxHeartbeats 8000000 in
theorem for26 (x : Prk) (A B : Option Addr) (c d : Nat) (l : List Int) (S : Nat) (w : World) (hx : PrkOk x) (hA : Fours w w.heap.size A x.sp) (hl : Ints w w.heap.size B l) (hlx : l.length = x.n)
    (hp : ∀ i, i < x.n → 0 ≤ crF l i ∧ crF l i ≤ 12) (hS : S < 64) :
    Calls Try.prog 26 #[x.val A c, .slice B l.length d, I S] w fun e w' => e = .returned (I (forX x (crF l) S)) ∧ Below w.heap.size w w' := by
  have HA := Lib.hid hA
  have HL := Lib.hid hl
  have HX := Lib.hid hx
  have hn6 : x.sp.length ≤ 6 := hx.n6
  have HLO : Hid (∀ k (h : k < x.sp.length), x.sp[k].2.2.2 = x.ne k) := Lib.hid fun k h => by simp [Prk.ne, List.getD, h]
  have HCR : Hid (∀ k (h : k < l.length), l[k] = crF l k) := Lib.hid fun k h => by simp [List.getD, h]
  have HBD := Lib.hid (forTo_bd hx.n6 hp S)
  have HLX := Lib.hid hlx
  have HPP := Lib.hid hp
  have hl6 : l.length ≤ 6 := by rw [hlx]; exact hx.n6
  have HB24 : Hid (∀ (T i : Nat) (W : World), T < 64 → i < 64 → Calls Try.prog 24 #[I T, I i] W fun e w' => e = .returned (.bool (T.testBit i)) ∧ W = w') := Lib.hid fun T i W h h' => bit24 T i W (by omega) (by omega)
  have HEND : Hid (forTo x (crF l) S l.length = forX x (crF l) S) := Lib.hid (by rw [hlx]; rfl)
  clear hA hl hx hp hlx
  simp only [Prk.val]
  have HCP : Hid ((w.alloc (.cells #[.slice A x.sp.length c, I x.alo, I x.ahi] 26)).cell? ⟨w.heap.size, 0, none⟩ = some (.slice A x.sp.length c) ∧ Below w.heap.size w (w.alloc (.cells #[.slice A x.sp.length c, I x.alo, I x.ahi] 26))) := Lib.hid
    ⟨by simp [go_sem], below1 _ _⟩
  generalize x.alo = al at *
  generalize x.ahi = ah at *
  go_enter Try.func26, Try.ntmps26
  go_wp2_with (fail)
  generalize hwz0 : w.alloc (.cells #[.slice A x.sp.length c, I al, I ah] 26) = wa at *
  clear hwz0
  go_loop [7, 8] (fun s7 s8 => ∃ k : Nat, k ≤ l.length ∧ s8 = I k ∧ s7 = I (forTo x (crF l) S k)) (fun _ s => l.length - (intOf s).toNat)
  case atStart => exact ⟨0, by omega, rfl, rfl⟩
  case round =>
    obtain ⟨k, hk, rfl, rfl⟩ := hrel
    obtain ⟨q0, hB⟩ := HCP.out
    have hsb := HBD.out k (by have := HLX.out; omega)
    by_cases hlt : k < l.length
    · have hkx : k < x.sp.length := by have := HLX.out; have : x.n = x.sp.length := rfl; omega
      have HFS : Hid (forTo x (crF l) S (k + 1) = forTo x (crF l) S k + if anyT S (x.ne k).toNat k l.length then crF l k else 0) := Lib.hid (by rw [HLX.out, anyT_can x S hkx]; rfl)
      obtain ⟨hne, hnl⟩ := near_lt HX.out hkx
      have hpk := HPP.out k hkx
      obtain ⟨lb, lo', hLe, hlz, hlc⟩ := (HL.out.below hB) (by omega)
      subst hLe
      obtain ⟨ab, ao, hAe, haz, hac⟩ := (HA.out.below hB) (by omega)
      subst hAe
      have l0 := hlc k hlt
      obtain ⟨_, _, _, a3⟩ := hac k hkx
      rw [HLO.out k hkx, hne] at a3
      rw [HCR.out k hlt] at l0
      clear hlc hac hne
      generalize forTo x (crF l) S k = s at *
      generalize crF l k = v at *
      generalize (x.ne k).toNat = m at *
      have HBK : Hid (∀ W : World, Calls Try.prog 24 #[I S, I k] W fun e w' => e = .returned (.bool (S.testBit k)) ∧ W = w') := Lib.hid fun W => HB24.out S k W hS (by omega)
      have HA0 : Hid (S.testBit k = anyT S m k 0) := Lib.hid rfl
      generalize S.testBit k = b0 at *
      have p0 : (0 : Int) ≤ (k : Int) := by omega
      have p1 : (k : Int) < (l.length : Int) := by omega
      have p2 : (k : Int) < (x.sp.length : Int) := by omega
      go_wp2_with (first
        | (go_at_call 24; refine (HBK.out _).mono ?_; rintro e w1 ⟨rfl, rfl⟩)
        | fail)
      go_loop [9, 10] (fun s9 s10 => ∃ j : Nat, j ≤ l.length ∧ s10 = I j ∧ s9 = .bool (anyT S m k j)) (fun _ s => l.length - (intOf s).toNat)
      case atStart => exact ⟨0, by omega, rfl, by rw [HA0.out]⟩
      case round =>
        obtain ⟨j, hj, rfl, rfl⟩ := hrel
        by_cases hlj : j < l.length
        · have HAN : Hid (anyT S m k (j + 1) = (anyT S m k j || (S.testBit j && m.testBit j))) := Lib.hid rfl
          have HB1 : Hid (∀ W : World, Calls Try.prog 24 #[I S, I j] W fun e w' => e = .returned (.bool (S.testBit j)) ∧ W = w') := Lib.hid fun W => HB24.out S j W hS (by omega)
          have HB2 : Hid (∀ W : World, Calls Try.prog 24 #[I m, I j] W fun e w' => e = .returned (.bool (m.testBit j)) ∧ W = w') := Lib.hid fun W => HB24.out m j W hnl (by omega)
          have r0 : (0 : Int) ≤ (j : Int) := by omega
          have r1 : (j : Int) < (l.length : Int) := by omega
          generalize anyT S m k j = b1 at *
          generalize S.testBit j = b2 at *
          generalize m.testBit j = b3 at *
          cases b1
          · cases b2
            · go_wp2_with (first
                | (go_at_call 24; first | (with_reducible refine (HB1.out _).mono ?_; rintro e w1 ⟨rfl, rfl⟩) | (with_reducible refine (HB2.out _).mono ?_; rintro e w1 ⟨rfl, rfl⟩))
                | fail)
              go_round
              case rel => exact ⟨j + 1, by omega, by go_num, by rw [HAN.out]; rfl⟩
              case measure => simp [intOf]; omega
            · cases b3
              all_goals
                go_wp2_with (first
                  | (go_at_call 24; first | (with_reducible refine (HB1.out _).mono ?_; rintro e w1 ⟨rfl, rfl⟩) | (with_reducible refine (HB2.out _).mono ?_; rintro e w1 ⟨rfl, rfl⟩))
                  | fail)
                go_round
                case rel => exact ⟨j + 1, by omega, by go_num, by rw [HAN.out]; rfl⟩
                case measure => simp [intOf]; omega
          · go_wp2_with (first
              | (go_at_call 24; first | (with_reducible refine (HB1.out _).mono ?_; rintro e w1 ⟨rfl, rfl⟩) | (with_reducible refine (HB2.out _).mono ?_; rintro e w1 ⟨rfl, rfl⟩))
              | fail)
            go_round
            case rel => exact ⟨j + 1, by omega, by go_num, by rw [HAN.out]; rfl⟩
            case measure => simp [intOf]; omega
        · obtain rfl : j = l.length := by omega
          generalize anyT S m k l.length = b1 at *
          cases b1
          all_goals
            go_wp2_with (fail)
            go_round
            case rel => exact ⟨k + 1, by omega, by go_num, by rw [HFS.out]; first | rfl | go_num | simp⟩
            case measure => simp [intOf]; omega
    · obtain rfl : l.length = k := by omega
      go_wp2_with (fail)
      go_ret
      exact ⟨ret_int HEND.out, hB⟩
end Go.Proofs.Ytfebhofihioaoaa
