/- WellsEnds: the walk. -/
import Derived.Test.YtgdilbilhajgaaaDoorCa
namespace Go.Proofs.YtgdilbilhajgaaaDoor
set_option linter.unusedVariables false
set_option linter.unusedSimpArgs false
open Go Go.RowKit

set_option maxRecDepth 100000 in
set_option maxHeartbeats 8000000 in
theorem ends_any (A B : Option Addr) (c d : Nat) (m : List (Int × Int)) (l : List (Int × Int × Int)) (wh by_ : Int) (w : World) (hm : Pairs w w.heap.size A m) (hl : Threes w w.heap.size B l) (hml : m.length ≤ 9223372036854775807) (hll : l.length ≤ 9223372036854775807) (hT : TabOk w)
    (hw0 : 0 ≤ wh) (hw1 : wh ≤ 255) (hb0 : 0 ≤ by_) (hb1 : by_ ≤ 65535) :
    Calls Tryd.prog 4 #[.slice A m.length c, .slice B l.length d, .int .u8 wh, .int .u16 by_] w fun e w' => e = .returned (.bool true) ∧ Below w.heap.size w w' := by
  have HCE : Hid (∀ W, Below (w.heap.size + 2) ((w.alloc (.cells #[.slice A m.length c] 22)).alloc (.cells #[.slice B l.length d] 23)) W → (W.cell? ⟨w.heap.size, 0, none⟩ = some (.slice A m.length c) ∧ W.cell? ⟨w.heap.size + 1, 0, none⟩ = some (.slice B l.length d)) ∧
      Pairs W W.heap.size A m ∧ Threes W W.heap.size B l ∧ TabOk W ∧ Below w.heap.size w W ∧ w.heap.size + 2 ≤ W.heap.size) := Lib.hid fun W hW => by
    have h2 : Below w.heap.size w W := (((Below.refl _ w).alloc (Nat.le_refl _) _).alloc (by simp) _).trans (hW.mono (by omega))
    refine ⟨⟨?_, ?_⟩, (hm.below h2).more h2.size, (hl.below h2).more h2.size, hT.below h2, h2, by have := hW.size; simpa using this⟩
    · rw [hW.cell (p := ⟨w.heap.size, _, none⟩) (by simp)]; simp [go_sem]
    · rw [hW.cell (p := ⟨w.heap.size + 1, _, none⟩) (by simp)]; simp [go_sem]
  have HA : Hid (∀ W, TabOk W → Calls Tryd.prog 12 #[] W fun e w' => e = .returned (.bool true) ∧ Below W.heap.size W w') := Lib.hid fun W h => alive12 W h
  have HG : Hid (∀ W, Calls Tryd.prog 11 #[.slice A m.length c, .slice B l.length d, I 24] W fun e w' => e = .returned (.bool (greatB m.length l.length 24)) ∧ W = w') := Lib.hid fun W => great11 A B m.length c l.length d 24 W
  have HF : Hid (∀ W, Pairs W W.heap.size A m → Threes W W.heap.size B l → Calls Tryd.prog 18 #[.slice A m.length c, .slice B l.length d] W (FlowsPost m l W)) := Lib.hid fun W h1 h2 => flows18 A B c d m l W h1 hml h2 hll
  have HMA : Hid (∀ W, Pairs W W.heap.size A m → InOk m l → Calls Tryd.prog 19 #[.slice A m.length c] W fun e w' => e = .returned (.bool true) ∧ Below W.heap.size W w') := Lib.hid fun W h1 hok => (mains19 A c m W h1 hml).mono fun e w' ⟨h, h'⟩ => ⟨by rw [h, mOkB_iff.2 hok.1], h'⟩
  have HCAN : Hid (∀ bi i n s W, Below (w.heap.size + 2) ((w.alloc (.cells #[.slice A m.length c] 22)).alloc (.cells #[.slice B l.length d] 23)) W → bi < W.heap.size → W.cell? ⟨bi, 0, none⟩ = some (I (i : Nat)) → InOk m l → l.length < 12 → i < m.length → IsSpans m l s →
      Calls Tryd.prog 20 #[I n, .pointer (some ⟨w.heap.size, 0, none⟩), .pointer (some ⟨w.heap.size + 1, 0, none⟩), .pointer (some ⟨bi, 0, none⟩)] W fun e w' => e = .returned (.bool (canB s i n)) ∧ Below W.heap.size W w') := Lib.hid fun bi i n s W hW hbi hci hok hlen hi hs => by
    obtain ⟨⟨e1, e2⟩, e3, e4, _, _, e6⟩ := HCE.out W hW
    exact can20 w.heap.size (w.heap.size + 1) bi A B c d m l i n s W (by omega) (by omega) hbi e1 e2 hci e3 e4 hok hlen hi hs
  clear hm hl hT
  by_cases hbig : greatB m.length l.length 24 = true ∨ 12 ≤ l.length
  · cases hg : greatB m.length l.length 24
    all_goals
      rw [hg] at HG hbig
      have hlb : Bool.or (greatB m.length l.length 24) (decide ((12 : Int) ≤ (l.length : Int))) = true := by
        rcases hbig with h | h
        · first | (rw [hg]; rfl) | cases h
        · rw [hg]; simp; try omega
      rw [hg] at hlb
      go_enter Tryd.func4, Tryd.ntmps4
      go_wp2_with (first
        | (go_at_call 11; obtain ⟨⟨a1, a2⟩, _, _, ht, hq, hz⟩ := HCE.out ((w.alloc (.cells #[.slice A m.length c] 22)).alloc (.cells #[.slice B l.length d] 23)) (by simpa using Below.refl _ _); have HTB := Lib.hid ht; refine (HG.out _).mono ?_; rintro e w1 ⟨rfl, rfl⟩)
        | (go_at_call 12; refine (HA.out _ HTB.out).mono ?_; rintro e w2 ⟨rfl, hB2⟩)
        | fail)
      go_ret
      exact ⟨rfl, hq.trans (hB2.mono hq.size)⟩
  · have hg : greatB m.length l.length 24 = false := by simpa using fun h => hbig (.inl h)
    have hlen : l.length < 12 := by omega
    rw [hg] at HG
    have hlb : decide ((12 : Int) ≤ (l.length : Int)) = false := by simp; omega
    have HLEN := Lib.hid hlen
    clear hbig hlen
    go_enter Tryd.func4, Tryd.ntmps4
    go_wp2_with (first
      | (go_at_call 11; have hW1 : Below (w.heap.size + 2) ((w.alloc (.cells #[.slice A m.length c] 22)).alloc (.cells #[.slice B l.length d] 23)) ((w.alloc (.cells #[.slice A m.length c] 22)).alloc (.cells #[.slice B l.length d] 23)) := Below.refl _ _; obtain ⟨⟨a1, a2⟩, hp1, hl1, ht1, hq1, hz1⟩ := HCE.out _ hW1; have HP1 := Lib.hid hp1; have HL1 := Lib.hid hl1; clear hp1 hl1 ht1; refine (HG.out _).mono ?_; rintro e w1 ⟨rfl, rfl⟩)
      | (go_at_call 18; refine (HF.out _ HP1.out HL1.out).mono ?_; rintro e w2 ⟨hB2, ⟨hno, rfl⟩ | ⟨hok, hno, rfl⟩ | ⟨hok, v, sl, rfl, hown, hsl, hsp⟩⟩ <;> (have hW2 := hW1.trans (hB2.mono hz1); obtain ⟨⟨b1, b2⟩, hp2, hl2, ht2, hq2, hz2⟩ := HCE.out _ hW2; have HP2 := Lib.hid hp2; have HT2 := Lib.hid ht2; clear hp2 hl2 ht2; first | (obtain ⟨A2, c2, hv, hps⟩ := pairs_ownN hown hsl; rw [hsl] at hv; subst hv; obtain ⟨sb, so, rfl, hsb, hsc⟩ := hps (by rw [hsl]; exact hok.1.pos); have HSC := Lib.hid hsc; have HOK := Lib.hid hok; have HSP := Lib.hid hsp; have HSL := Lib.hid hsl; have hm1 : (1 : Int) ≤ (m.length : Int) := (by have := hok.1.pos; omega); have hm2 : (m.length : Int) ≤ 16 := (by have := hok.1.le; omega); clear hsc hok hsp hsl hown) | clear hno))
      | (go_at_call 12; refine (HA.out _ HT2.out).mono ?_; rintro e w9 ⟨rfl, hB9⟩)
      | (go_at_call 19; refine (HMA.out _ HP2.out HOK.out).mono ?_; rintro e w3 ⟨rfl, hB3⟩; have hW3 := hW2.trans (hB3.mono hz2); obtain ⟨⟨d1, d2⟩, _, _, ht3, hq3, hz3⟩ := HCE.out _ hW3; clear ht3)
      | fail)
    · go_ret
      exact ⟨rfl, hq2.trans (hB9.mono hq2.size)⟩
    · go_ret
      exact ⟨rfl, hq2.trans (hB9.mono hq2.size)⟩
    · have hmod : 0 ≤ wh % (m.length : Int) ∧ wh % (m.length : Int) < (m.length : Int) := ⟨Int.emod_nonneg _ (by omega), Int.emod_lt_of_pos _ (by omega)⟩
      obtain ⟨i, hi⟩ : ∃ i : Nat, wh % (m.length : Int) = (i : Int) := ⟨(wh % (m.length : Int)).toNat, by omega⟩
      rw [hi] at hmod ⊢
      have him : i < m.length := by omega
      have hbd := ends_bd HSP.out him
      have hsi : i < sl.length := by rw [HSL.out]; exact him
      have hc := HSC.out i hsi
      have hse : sl[i] = sF sl i := by simp [sF, List.getD, hsi]
      rw [hse] at hc
      obtain ⟨lo, hlo⟩ : ∃ lo : Int, lo = (sF sl i).1 := ⟨_, rfl⟩
      obtain ⟨hi', hhi⟩ : ∃ h : Int, h = (sF sl i).2 := ⟨_, rfl⟩
      have hcanb : ∀ n, canB (sF sl) i n = decide (lo ≤ n ∧ n ≤ hi') := fun n => by unfold canB; rw [hlo, hhi]
      rw [← hlo, ← hhi] at hc hbd
      obtain ⟨hc0, hc1⟩ := hc
      obtain ⟨hb1', hb2', hb3'⟩ := hbd
      have HCE2 : Hid (∀ W, Below (w3.heap.size + 1) (w3.alloc (.cells #[I i] 3)) W → (W.cell? ⟨w3.heap.size, 0, none⟩ = some (I i) ∧ W.cell? ⟨sb, so + i * 2, none⟩ = some (I lo) ∧ W.cell? ⟨sb, so + i * 2 + 1, none⟩ = some (I hi')) ∧
          TabOk W ∧ Below w.heap.size w W ∧ Below (w.heap.size + 2) ((w.alloc (.cells #[.slice A m.length c] 22)).alloc (.cells #[.slice B l.length d] 23)) W ∧ w3.heap.size + 1 ≤ W.heap.size) := Lib.hid fun W hW => by
        have h3 : Below w3.heap.size w3 W := ((Below.refl _ w3).alloc (Nat.le_refl _) _).trans (hW.mono (by omega))
        have h2 : Below w2.heap.size w2 W := hB3.trans (h3.mono hB3.size)
        have h4 := hW3.trans (h3.mono hz3)
        obtain ⟨_, _, _, ht, hq, _⟩ := HCE.out W h4
        refine ⟨⟨?_, (h2.cell (p := ⟨sb, so + i * 2, none⟩) hsb).trans hc0, (h2.cell (p := ⟨sb, so + i * 2 + 1, none⟩) hsb).trans hc1⟩, ht, hq, h4, by have := hW.size; simpa using this⟩
        rw [hW.cell (p := ⟨w3.heap.size, _, none⟩) (by simp)]; simp [go_sem]
      have HCK : Hid (∀ n b W, Below (w3.heap.size + 1) (w3.alloc (.cells #[I i] 3)) W → decide (lo ≤ n ∧ n ≤ hi') = b → Calls Tryd.prog 20 #[I n, .pointer (some ⟨w.heap.size, 0, none⟩), .pointer (some ⟨w.heap.size + 1, 0, none⟩), .pointer (some ⟨w3.heap.size, 0, none⟩)] W fun e w' => e = .returned (.bool b) ∧ Below W.heap.size W w') := Lib.hid fun n b W hW hb => by
        obtain ⟨⟨x1, _, _⟩, _, _, x2, x3⟩ := HCE2.out W hW
        have := HCAN.out w3.heap.size i n (sF sl) W x2 (by omega) x1 HOK.out HLEN.out him HSP.out
        rwa [hcanb, hb] at this
      have k1 : decide (lo ≤ lo ∧ lo ≤ hi') = true := decide_eq_true (by omega)
      have k2 : decide (lo ≤ hi' ∧ hi' ≤ hi') = true := decide_eq_true (by omega)
      have k3 : decide (lo ≤ lo - 1 ∧ lo - 1 ≤ hi') = false := decide_eq_false (by omega)
      have k4 : decide (lo ≤ hi' + 1 ∧ hi' + 1 ≤ hi') = false := decide_eq_false (by omega)
      have hrm : 0 ≤ by_ % (hi' - lo + 1) ∧ by_ % (hi' - lo + 1) < hi' - lo + 1 := ⟨Int.emod_nonneg _ (by omega), Int.emod_lt_of_pos _ (by omega)⟩
      have k5 : decide (lo ≤ lo + by_ % (hi' - lo + 1) ∧ lo + by_ % (hi' - lo + 1) ≤ hi') = true := decide_eq_true (by omega)
      have g1 : IntKind.i64.wrap (lo - 1) = lo - 1 := IntWalk.i64_in _ (by omega)
      have g2 : IntKind.i64.wrap (hi' + 1) = hi' + 1 := IntWalk.i64_in _ (by omega)
      have g3 : IntKind.i64.wrap (hi' - lo) = hi' - lo := IntWalk.i64_in _ (by omega)
      have g4 : IntKind.i64.wrap (hi' - lo + 1) = hi' - lo + 1 := IntWalk.i64_in _ (by omega)
      have g5 : IntKind.i64.wrap (lo + by_ % (hi' - lo + 1)) = lo + by_ % (hi' - lo + 1) := IntWalk.i64_in _ (by omega)
      have g6 : IntKind.i64.wrap by_ = by_ := IntWalk.i64_in _ (by omega)
      have g7 : decide (hi' < lo) = false := by simp; omega
      have g8 : (hi' - lo + 1 == 0) = false := by simp; omega
      have p1 : (0 : Int) ≤ (i : Int) := by omega
      have p2 : (i : Int) < (m.length : Int) := by omega
      clear hc0 hc1 hlo hhi hcanb hse hsi hi HSC HSL HCAN HF HMA HG a1 a2 b1 b2 d1 d2 HP1 HL1 HP2 HT2
      refine (wpIn_wide (n := 9)).1 ?_
      refine wpIn_region_valsG [some 60, some 61, some 62, some 63, some 64, some 65, some 66, some 67, some 68, some 69, some 70, some 71, some 72, some 73, some 74, some 75, some 76, some 77, some 78, some 79, some 80, some 81, some 82, some 83, some 84, some 85, some 86, some 87, some 88, some 89, some 90, some 91, some 92, some 93, some 94, some 95, some 96, some 97, some 98, some 99, some 100, some 101, some 102, some 103, some 104, some 105, some 106, some 107, some 108, some 109, some 110]
        (nthV [.slice (some ⟨sb, so, none⟩) m.length c2, I i, .pointer (some ⟨sb, so + i * 2, none⟩), .pointer (some ⟨sb, so + i * 2, none⟩), I lo, .slice (some ⟨sb, so, none⟩) m.length c2, I i, .pointer (some ⟨sb, so + i * 2, none⟩), .pointer (some ⟨sb, so + i * 2 + 1, none⟩), I hi', .bool false, .bool false, .func (.func 20) #[] #[.pointer (some ⟨w.heap.size, 0, none⟩), .pointer (some ⟨w.heap.size + 1, 0, none⟩), .pointer (some ⟨w3.heap.size, 0, none⟩)], .slice (some ⟨sb, so, none⟩) m.length c2, I i, .pointer (some ⟨sb, so + i * 2, none⟩), .pointer (some ⟨sb, so + i * 2, none⟩), I lo, .bool true, .bool false, .bool false, .bool false, .func (.func 20) #[] #[.pointer (some ⟨w.heap.size, 0, none⟩), .pointer (some ⟨w.heap.size + 1, 0, none⟩), .pointer (some ⟨w3.heap.size, 0, none⟩)], .slice (some ⟨sb, so, none⟩) m.length c2, I i, .pointer (some ⟨sb, so + i * 2, none⟩), .pointer (some ⟨sb, so + i * 2 + 1, none⟩), I hi', .bool true, .bool false, .bool false, .bool false, .func (.func 20) #[] #[.pointer (some ⟨w.heap.size, 0, none⟩), .pointer (some ⟨w.heap.size + 1, 0, none⟩), .pointer (some ⟨w3.heap.size, 0, none⟩)], .slice (some ⟨sb, so, none⟩) m.length c2, I i, .pointer (some ⟨sb, so + i * 2, none⟩), .pointer (some ⟨sb, so + i * 2, none⟩), I lo, I (lo - 1), .bool false, .bool false, .bool false, .func (.func 20) #[] #[.pointer (some ⟨w.heap.size, 0, none⟩), .pointer (some ⟨w.heap.size + 1, 0, none⟩), .pointer (some ⟨w3.heap.size, 0, none⟩)], .slice (some ⟨sb, so, none⟩) m.length c2, I i, .pointer (some ⟨sb, so + i * 2, none⟩), .pointer (some ⟨sb, so + i * 2 + 1, none⟩), I hi', I (hi' + 1), .bool false, .bool false])
        (fun W => Below (w3.heap.size + 1) (w3.alloc (.cells #[I i] 3)) W) rfl (by kernel_rfl) (by kernel_rfl) (by kernel_rfl) (fun _ d _ _ _ h => by cases d <;> exact h) (by simpa using (Below.refl _ (w3.alloc (.cells #[I i] 3))).drew) ?_ ?_
      · refine ⟨?_, ?_, ?_, ?_, ?_, ?_, ?_, ?_, ?_, ?_, ?_, ?_, ?_, ?_, ?_, ?_, ?_, ?_, ?_, ?_, ?_, ?_, ?_, ?_, ?_, ?_, ?_, ?_, ?_, ?_, ?_, ?_, ?_, ?_, ?_, ?_, ?_, ?_, ?_, ?_, ?_, ?_, ?_, ?_, ?_, ?_, ?_, ?_, ?_, ?_, ?_, trivial⟩
        all_goals ((intro x W hC K hK; have HK := Lib.hid hK; have HC := Lib.hid hC; clear hC hK; simp only [putD, nthV, Act.put, List.setIfInBounds_toArray, List.set_cons_succ, List.set_cons_zero, Nat.zero_add, Nat.reduceAdd, Nat.reduceEqDiff, reduceIte , Nat.succ_ne_zero, Nat.zero_ne_one, Nat.one_ne_zero] at HK ⊢); obtain ⟨⟨n0, n1, n2⟩, _, _, _, hzW⟩ := HCE2.out _ HC.out; refine ⟨rfl, ?_⟩)
        all_goals first
          | (refine op_li rfl ?_; go_simp; exact HK.out _ HC.out)
          | (gi_wp2_with (refine And.intro trivial ?_; gi_at_call 20; refine callsIn_wide.2 ((HCK.out _ _ W HC.out (by assumption)).mono ?_); rintro e w6 ⟨rfl, hB6⟩)
             exact HK.out _ (HC.out.trans (hB6.mono hzW)))
      · (intro W hC; have HC := Lib.hid hC; clear hC; simp only [putD, nthV, Act.put, List.setIfInBounds_toArray, List.set_cons_succ, List.set_cons_zero, Nat.zero_add, Nat.reduceAdd])
        go_wp2
        obtain ⟨⟨n0, n1, n2⟩, _, _, _, hzW⟩ := HCE2.out _ HC.out
        refine (wpIn_wide (n := 9)).1 ?_
        refine wpIn_region_valsG [some 111, some 112, some 113, some 114, some 115, some 116, some 117, some 118, some 119, some 120, some 121, some 122, some 123, some 124, some 125, some 126, some 127, some 128, some 129, some 130, some 131, some 132, some 133, some 134, some 135, some 136, some 8]
          (nthV [.func (.func 20) #[] #[.pointer (some ⟨w.heap.size, 0, none⟩), .pointer (some ⟨w.heap.size + 1, 0, none⟩), .pointer (some ⟨w3.heap.size, 0, none⟩)], .slice (some ⟨sb, so, none⟩) m.length c2, I i, .pointer (some ⟨sb, so + i * 2, none⟩), .pointer (some ⟨sb, so + i * 2, none⟩), I lo, .int .u16 by_, I by_, .slice (some ⟨sb, so, none⟩) m.length c2, I i, .pointer (some ⟨sb, so + i * 2, none⟩), .pointer (some ⟨sb, so + i * 2 + 1, none⟩), I hi', .slice (some ⟨sb, so, none⟩) m.length c2, I i, .pointer (some ⟨sb, so + i * 2, none⟩), .pointer (some ⟨sb, so + i * 2, none⟩), I lo, I (hi' - lo), I (hi' - lo + 1), I (by_ % (hi' - lo + 1)), I (lo + by_ % (hi' - lo + 1)), .bool true, .bool true, .bool true, .bool true, .bool true])
          (fun W => Below (w3.heap.size + 1) (w3.alloc (.cells #[I i] 3)) W) rfl (by kernel_rfl) (by kernel_rfl) (by kernel_rfl) (fun _ d _ _ _ h => by cases d <;> exact h) HC.out.drew ?_ ?_
        · have HC0 := Lib.hid HC.out
          clear HC
          refine ⟨?_, ?_, ?_, ?_, ?_, ?_, ?_, ?_, ?_, ?_, ?_, ?_, ?_, ?_, ?_, ?_, ?_, ?_, ?_, ?_, ?_, ?_, ?_, ?_, ?_, ?_, ?_, trivial⟩
          all_goals ((intro x W hC K hK; have HK := Lib.hid hK; have HC := Lib.hid hC; clear hC hK; simp only [putD, nthV, Act.put, List.setIfInBounds_toArray, List.set_cons_succ, List.set_cons_zero, Nat.zero_add, Nat.reduceAdd, Nat.reduceEqDiff, reduceIte , Nat.succ_ne_zero, Nat.zero_ne_one, Nat.one_ne_zero] at HK ⊢); obtain ⟨⟨n0, n1, n2⟩, htb, _, _, hzW⟩ := HCE2.out _ HC.out; have HTB := Lib.hid htb; clear htb; refine ⟨rfl, ?_⟩)
          all_goals first
            | (refine op_li rfl ?_; go_simp; exact HK.out _ HC.out)
            | (gi_wp2; exact HK.out _ HC.out)
            | (gi_wp2_with (refine And.intro trivial ?_; gi_at_call 20; refine callsIn_wide.2 ((HCK.out _ _ _ HC.out (by assumption)).mono ?_); rintro e w6 ⟨rfl, hB6⟩)
               exact HK.out _ (HC.out.trans (hB6.mono hzW)))
            | (gi_wp2_with (refine And.intro trivial ?_; gi_at_call 12; refine callsIn_wide.2 ((HA.out _ HTB.out).mono ?_); rintro e w6 ⟨rfl, hB6⟩)
               exact HK.out _ (HC.out.trans (hB6.mono hzW)))
        · clear HC
          (intro W hC; have HC := Lib.hid hC; clear hC; simp only [putD, nthV, Act.put, List.setIfInBounds_toArray, List.set_cons_succ, List.set_cons_zero, Nat.zero_add, Nat.reduceAdd])
          go_wp2
          go_ret
          exact ⟨rfl, (HCE2.out _ HC.out).2.2.1⟩
end Go.Proofs.YtgdilbilhajgaaaDoor
