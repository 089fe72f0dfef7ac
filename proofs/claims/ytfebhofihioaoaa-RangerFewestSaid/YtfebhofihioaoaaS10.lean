/- What is lacking, of the program. -/
import Derived.Test.YtfebhofihioaoaaS9
import Derived.WalkMore
namespace Go.Proofs.Ytfebhofihioaoaa
set_option linter.unusedVariables false
set_option linter.unusedSimpArgs false
open Go Go.RowKit

theorem lack_le (need has : Nat → Int) : ∀ k, (lackTo need has k).1 ≤ k
  | 0 => Nat.le_refl _
  | k + 1 => by
    have := lack_le need has k
    simp only [lackTo]
    split
    · exact Nat.le_succ _
    · omega
theorem countN_le (S : Nat) : countN S ≤ 6 := by rw [← cnt_eq]; exact cntTo_le S 6
theorem forX_bd {x : Prk} (hx : PrkOk x) {p : Nat → Int} (hp : ∀ i, i < x.n → 0 ≤ p i ∧ p i ≤ 12) (S : Nat) : 0 ≤ forX x p S ∧ forX x p S ≤ 72 := by
  have h : 0 ≤ forX x p S ∧ forX x p S ≤ 12 * (x.n : Int) := forTo_bd hx.n6 hp S x.n (Nat.le_refl _)
  have := hx.n6
  omega
set_option maxRecDepth 100000 in
set_option maxHeartbeats 4000000 in
theorem lacking39 (x : Prk) (P : Nat) (A B : Option Addr) (c d : Nat) (xs : List Int) (p : Nat → Int) (w : World) (hx : PrkOk x) (hP : ParkAt w P x A c (.slice B xs.length d)) (hR : Ints w w.heap.size B xs)
    (hp : ∀ i, i < x.n → 0 ≤ p i ∧ p i ≤ 12) (hxl : xs.length ≤ 64) (hxb : ∀ k (h : k < xs.length), 0 ≤ xs[k] ∧ xs[k] ≤ 1073741824) :
    Calls Try.prog 39 #[.pointer (some ⟨P, 0, none⟩), .agg #[I (p 0), I (p 1), I (p 2), I (p 3), I (p 4), I (p 5)]] w fun e w' =>
      e = .returned (.tuple #[I ((lackTo (crF xs) (forX x p) xs.length).1 : Nat), I (lackTo (crF xs) (forX x p) xs.length).2]) ∧ Below w.heap.size w w' := by
  have HFB : Hid (∀ S, 0 ≤ forX x p S ∧ forX x p S ≤ 72) := Lib.hid (forX_bd hx hp)
  have HL := Lib.hid (lack_le (crF xs) (forX x p))
  have HS : Hid (∀ k, lackTo (crF xs) (forX x p) (k + 1) = if 0 < crF xs k - forX x p k ∧ ((lackTo (crF xs) (forX x p) k).1 = 0 ∨ countN k < countN (lackTo (crF xs) (forX x p) k).1) then (k, crF xs k - forX x p k) else lackTo (crF xs) (forX x p) k) := Lib.hid fun k => rfl
  have H0 : Hid (lackTo (crF xs) (forX x p) 0 = (0, 0)) := Lib.hid rfl
  have HCR : Hid (∀ k (h : k < xs.length), xs[k] = crF xs k) := Lib.hid fun k h => by simp [List.getD, h]
  have HXB := Lib.hid hxb
  have H48 : Hid (∀ (k : Nat) (W : World), k < 64 → ParkAt W P x A c (.slice B xs.length d) → Calls Try.prog 48 #[.pointer (some ⟨P, 0, none⟩), .agg #[I (p 0), I (p 1), I (p 2), I (p 3), I (p 4), I (p 5)], I k] W fun e w' => e = .returned (I (forX x p k)) ∧ Below W.heap.size W w') :=
    Lib.hid fun k W hk hW => rangers48 x P A c _ p k W hx hW hp hk
  have H49 : Hid (∀ (k : Nat) (W : World), k < 64 → Calls Try.prog 49 #[I k] W fun e w' => e = .returned (I (countN k)) ∧ W = w') := Lib.hid fun k W hk => count49 k W hk
  have HW : Hid (Below w.heap.size w (w.alloc (.cells #[I (p 0), I (p 1), I (p 2), I (p 3), I (p 4), I (p 5)] 65))) := Lib.hid (below1 _ _)
  have HBX : Hid (Box (w.alloc (.cells #[I (p 0), I (p 1), I (p 2), I (p 3), I (p 4), I (p 5)] 65)) w.heap.size (six p)) := Lib.hid (Box.new w (six p) 65)
  have HPA := Lib.hid (hP.call HW.out)
  have HRA : Hid (Ints (w.alloc (.cells #[I (p 0), I (p 1), I (p 2), I (p 3), I (p 4), I (p 5)] 65)) w.heap.size B xs) := Lib.hid (hR.below HW.out)
  have hsz : (w.alloc (.cells #[I (p 0), I (p 1), I (p 2), I (p 3), I (p 4), I (p 5)] 65)).heap.size = w.heap.size + 1 := by simp
  have hPz := hP.lt
  clear hP hp hx hR hxb
  generalize forX x p = fo at *
  generalize lackTo (crF xs) fo = la at *
  have c3 := HPA.out.needs
  go_enter Try.func39, Try.ntmps39
  go_wp2_with (fail)
  go_step3
  go_wp2_with (fail)
  go_step3
  go_wp2_with (fail)
  generalize hwz0 : w.alloc (.cells #[I (p 0), I (p 1), I (p 2), I (p 3), I (p 4), I (p 5)] 65) = wa at *
  clear hwz0
  go_loopw [4, 5, 14] (fun s4 s5 s14 wr => ∃ k : Nat, k ≤ xs.length ∧ s14 = I k ∧ s4 = I ((la k).1 : Nat) ∧ s5 = I (la k).2 ∧ Below wa.heap.size wa wr) (fun _ _ s _ => xs.length - (intOf s).toNat)
  case atStart => exact ⟨0, by omega, rfl, by rw [H0.out]; rfl, by rw [H0.out], Below.refl _ _⟩
  case round =>
    obtain ⟨k, hk, rfl, rfl, rfl, hB⟩ := hrel
    have hzr := hB.size
    by_cases hlt : k < xs.length
    · have HPK := Lib.hid (HPA.out.call hB)
      have HBK := Lib.hid (HBX.out.call hB)
      obtain ⟨c0, _⟩ := HBK.out.at_ 0 _ (six_at _ (by omega))
      obtain ⟨c1, _⟩ := HBK.out.at_ 1 _ (six_at _ (by omega))
      obtain ⟨c2, _⟩ := HBK.out.at_ 2 _ (six_at _ (by omega))
      obtain ⟨c3, _⟩ := HBK.out.at_ 3 _ (six_at _ (by omega))
      obtain ⟨c4, _⟩ := HBK.out.at_ 4 _ (six_at _ (by omega))
      obtain ⟨c5, _⟩ := HBK.out.at_ 5 _ (six_at _ (by omega))
      obtain ⟨rb, ro, hRe, hrz, hrc⟩ := (HRA.out.below (hB.mono (by omega))) (by omega)
      subst hRe
      have r0 := hrc k hlt
      have hvb := HXB.out k hlt
      rw [HCR.out k hlt] at r0 hvb
      have hfb := HFB.out k
      have hbk : (la k).1 < 64 := by have := HL.out k; omega
      have HSK := Lib.hid (HS.out k)
      have HB48 : Hid (∀ W : World, ParkAt W P x A c (.slice (some ⟨rb, ro, none⟩) xs.length d) → Calls Try.prog 48 #[.pointer (some ⟨P, 0, none⟩), .agg #[I (p 0), I (p 1), I (p 2), I (p 3), I (p 4), I (p 5)], I k] W fun e w' => e = .returned (I (fo k)) ∧ Below W.heap.size W w') := Lib.hid fun W => H48.out k W (by omega)
      have HC1 : Hid (∀ W : World, Calls Try.prog 49 #[I k] W fun e w' => e = .returned (I (countN k)) ∧ W = w') := Lib.hid fun W => H49.out k W (by omega)
      have HC2 : Hid (∀ W : World, Calls Try.prog 49 #[I ((la k).1 : Nat)] W fun e w' => e = .returned (I (countN (la k).1)) ∧ W = w') := Lib.hid fun W => H49.out _ W hbk
      have hn1 := countN_le k
      have hn2 := countN_le (la k).1
      have HLK : Hid (((la k).1, (la k).2) = la k) := Lib.hid rfl
      obtain ⟨b, hb⟩ : ∃ b, (la k).1 = b := ⟨_, rfl⟩
      obtain ⟨m, hm⟩ : ∃ m, (la k).2 = m := ⟨_, rfl⟩
      rw [hb, hm] at HLK
      rw [hb] at HSK HC2 hn2 hbk
      rw [hb, hm]
      clear hb hm
      generalize countN k = n1 at *
      generalize countN b = n2 at *
      generalize crF xs k = v at *
      generalize fo k = f at *
      generalize hlk : la k = lk at *
      clear hlk
      have p0 : (0 : Int) ≤ (k : Int) := by omega
      have p1 : (k : Int) < (xs.length : Int) := by omega
      clear hrc
      by_cases h1 : v - f ≤ 0
      · have HE : Hid (la (k + 1) = (b, m)) := Lib.hid (by rw [HSK.out, if_neg (by omega), HLK.out])
        clear HSK HLK
        go_wp2_with (first
          | (go_at_call 48; refine (HB48.out _ HPK.out).mono ?_; rintro e w1 ⟨rfl, hB1⟩)
          | fail)
        have hB2 := hB.trans (hB1.mono hzr)
        go_roundw
        case rel => exact ⟨k + 1, by omega, by go_num, by rw [HE.out], by rw [HE.out], hB2⟩
        case measure => first | (simp [intOf]; done) | (simp [intOf]; omega)
      · by_cases h2 : b = 0
        · have HE : Hid (la (k + 1) = (k, v - f)) := Lib.hid (by rw [HSK.out, if_pos ⟨by omega, .inl h2⟩])
          clear HSK HLK
          go_wp2_with (first
            | (go_at_call 48; refine (HB48.out _ HPK.out).mono ?_; rintro e w1 ⟨rfl, hB1⟩)
            | fail)
          have hB2 := hB.trans (hB1.mono hzr)
          go_roundw
          case rel => exact ⟨k + 1, by omega, by go_num, by rw [HE.out], by rw [HE.out], hB2⟩
          case measure => first | (simp [intOf]; done) | (simp [intOf]; omega)
        · by_cases h3 : n1 < n2
          · have HE : Hid (la (k + 1) = (k, v - f)) := Lib.hid (by rw [HSK.out, if_pos ⟨by omega, .inr h3⟩])
            clear HSK HLK
            go_wp2_with (first
              | (go_at_call 48; refine (HB48.out _ HPK.out).mono ?_; rintro e w1 ⟨rfl, hB1⟩)
              | (go_at_call 49; first | (with_reducible refine (HC1.out _).mono ?_; rintro e w1 ⟨rfl, rfl⟩) | (with_reducible refine (HC2.out _).mono ?_; rintro e w1 ⟨rfl, rfl⟩))
              | fail)
            have hB2 := hB.trans (hB1.mono hzr)
            go_roundw
            case rel => exact ⟨k + 1, by omega, by go_num, by rw [HE.out], by rw [HE.out], hB2⟩
            case measure => first | (simp [intOf]; done) | (simp [intOf]; omega)
          · have HE : Hid (la (k + 1) = (b, m)) := Lib.hid (by rw [HSK.out, if_neg (by omega), HLK.out])
            clear HSK HLK
            go_wp2_with (first
              | (go_at_call 48; refine (HB48.out _ HPK.out).mono ?_; rintro e w1 ⟨rfl, hB1⟩)
              | (go_at_call 49; first | (with_reducible refine (HC1.out _).mono ?_; rintro e w1 ⟨rfl, rfl⟩) | (with_reducible refine (HC2.out _).mono ?_; rintro e w1 ⟨rfl, rfl⟩))
              | fail)
            have hB2 := hB.trans (hB1.mono hzr)
            go_roundw
            case rel => exact ⟨k + 1, by omega, by go_num, by rw [HE.out], by rw [HE.out], hB2⟩
            case measure => first | (simp [intOf]; done) | (simp [intOf]; omega)
    · obtain rfl : xs.length = k := by omega
      go_wp2_with (fail)
      try rw [Exit.noGoto_ret]
      refine bodyPost_ret (v := .tuple #[I ((la xs.length).1 : Nat), I (la xs.length).2]) (by simp [results, Try.results39, go_sem]) rfl ⟨rfl, HW.out.trans (hB.mono (by omega))⟩
end Go.Proofs.Ytfebhofihioaoaa
