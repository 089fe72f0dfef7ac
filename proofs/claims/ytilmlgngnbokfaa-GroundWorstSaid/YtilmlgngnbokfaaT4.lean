/- GroundWorst: the walk. -/
import Derived.Test.YtilmlgngnbokfaaWm
import Derived.Test.YtilmlgngnbokfaaLc
import Derived.Test.YtilmlgngnbokfaaEv
import Derived.Test.YtilmlgngnbokfaaNj
namespace Go.Proofs.Ytilmlgngnbokfaa
set_option linter.unusedVariables false
set_option linter.unusedSimpArgs false
open Go Go.RowKit

theorem info22 : (Try.prog.info? 22).map (fun i => (i.zero, i.size, i.bytes)) = some (some (.slice none 0 0), 1, 24) := by kernel_rfl

set_option maxRecDepth 100000 in
set_option maxHeartbeats 8000000 in
theorem worst_main (Ap Al : Option Addr) (cp cl : Nat) (d : Deck) (i : Nat) (w : World) (hp : Ints w w.heap.size Ap d.posts) (hl : Ints w w.heap.size Al d.lengths)
    (hd : d.ok 400) (hi : i < d.posts.length) (h4 : d.lengths.length ≤ 4) (h6 : d.persons ≤ 6) :
    Calls Try.prog 4 #[d.val Ap Al cp cl, I i] w fun e w' => e = .returned (.bool true) ∧ Below w.heap.size w w' := by
  have hd6 : d.ok 1000000 := by
    obtain ⟨o1, o2, o3, o4, o5⟩ := hd
    exact ⟨o1, o2, o3, fun k h => by have := o4 k h; omega, o5⟩
  have hpl : d.posts.length ≤ 24 := hd.2.1
  have hbl : d.lengths.length ≤ 24 := by omega
  have hda : ∀ W, Below w.heap.size w W → DeckAt W Ap Al d := fun W hB => ⟨(hp.below hB).more hB.size, (hl.below hB).more hB.size⟩
  have hD : ∀ W, Below w.heap.size w W → Calls Try.prog 12 #[d.val Ap Al cp cl, I 400] W fun e w' => e = .returned (.bool true) ∧ Below W.heap.size W w' := fun W hB =>
    (refDeck_any _ _ cp cl d 400 W ((hp.below hB).more hB.size) ((hl.below hB).more hB.size) (by omega) (by omega) (by omega)).mono fun e w' ⟨b, h1, h2, h3⟩ => ⟨by rw [h1, show b = true from h2.2 hd], h3⟩
  have hSh := fun W (hB : Below w.heap.size w W) y hy => share_any Ap Al cp cl d i y W (hda W hB) hd6 hi hy
  have hHf := fun W (hB : Below w.heap.size w W) => half_any Ap Al cp cl d i W (hda W hB) hd6 hi
  have hCm := fun W (hB : Below w.heap.size w W) => common_any Ap Al cp cl d i W (hda W hB) hd6 hi
  have hLd := fun W (hB : Below w.heap.size w W) => (Load_any Ap Al cp cl d (i : Nat) W ((hp.below hB).more hB.size) ((hl.below hB).more hB.size) (by omega) (by omega)).mono (R' := fun e w' => e = .returned (.tuple #[.agg #[I (pres d i).1, I (pres d i).2], I 0]) ∧ Below W.heap.size W w') fun e w' ⟨h1, h2⟩ => ⟨by rw [h1, load_ok hd (by omega) i hi]; rfl, h2⟩
  obtain ⟨hbl1, hbr1⟩ := beam_bd hd i
  have hd' := hd
  obtain ⟨o1, o2, o3, _, o5, o6, o7, o8, o9⟩ := hd'
  have hsb : ∀ k, 0 ≤ (d.lengths.take k).sum ∧ (d.lengths.take k).sum ≤ 800 := fun k => by
    have h1 := sum_le (M := 200) (d.lengths.take k) (fun v hv => by
      obtain ⟨j, hj, rfl⟩ := List.mem_iff_getElem.1 (List.mem_of_mem_take hv)
      have := o5 j hj
      omega)
    have h2 : ((d.lengths.take k).length : Int) ≤ 4 := by have := List.length_take_le' k d.lengths; omega
    exact ⟨h1.1, by have := Int.mul_le_mul_of_nonneg_right h2 (show (0 : Int) ≤ 200 by omega); omega⟩
  obtain ⟨lo1, lo2⟩ := left_le hd i hi
  have hL0 := hsb d.lengths.length
  rw [List.take_length] at hL0
  have hb8 := best8_best (pe := d.persons) hbl1 hbr1 o7 o8 o9.1 lo1 lo2
  have hshb := fun y => share_nonneg (l := leftOf d.lengths i) (r := rightOf d.lengths i) hbl1 hbr1 o7 y
  have hcu := comU_bd hbl1 hbr1
  have hpres : presN d i = bestU (leftOf d.lengths i) (rightOf d.lengths i) d.weight d.apart d.persons (min d.apart (max (leftOf d.lengths i) (rightOf d.lengths i) + 1)).toNat + halfU (leftOf d.lengths i) (rightOf d.lengths i) d.own := rfl
  rw [← hb8] at hpres
  obtain ⟨hC0, hC1, hN0, hN1⟩ := pres_bd hd i hi
  have hrt := fun W => ratio_any (presN d i) (presC d i) W hN0 (by omega) (by omega) (by omega)
  have hpr : pres d i = (presN d i / gcdI (presN d i) (presC d i), presC d i / gcdI (presN d i) (presC d i)) := rfl
  rw [hpr] at hLd
  have hps : presC d i = comU (leftOf d.lengths i) (rightOf d.lengths i) := rfl
  clear hpr hda hd6 hd hb8
  unfold shareD at *
  generalize presC d i = C at *
  generalize presN d i = pN at *
  generalize halfU (leftOf d.lengths i) (rightOf d.lengths i) d.own = hf at *
  generalize shareU (leftOf d.lengths i) (rightOf d.lengths i) d.weight = sh at *
  generalize gcdI pN C = gg at *
  subst hpres
  clear hbl1 hbr1 lo1 lo2 o1 o2 hps
  obtain ⟨ps, ls, own, wt, ap, pe⟩ := d
  simp only [Deck.val] at *
  obtain ⟨p, rfl⟩ := Int.eq_ofNat_of_zero_le o9.1
  obtain ⟨a, rfl⟩ := Int.eq_ofNat_of_zero_le (show 0 ≤ ap by omega)
  obtain ⟨L, hL⟩ := Int.eq_ofNat_of_zero_le hL0.1
  have hLe : L ≤ 800 := by omega
  have hLn : ls.sum.toNat = L := by omega
  simp only [hLn, Int.toNat_natCast] at *
  have hat := hsb i
  have hf4 : ∀ x : Nat, 0 ≤ sh ((x : Int) - (ls.take i).sum) ∧ sh ((x : Int) - (ls.take i).sum) ≤ 40000000 := fun x => by
    have := hshb ((x : Int) - (ls.take i).sum)
    omega
  have hb0 : ∀ n x, n ≤ p → 0 ≤ best8 (fun x : Nat => sh ((x : Int) - (ls.take i).sum)) a n x ∧ best8 (fun x : Nat => sh ((x : Int) - (ls.take i).sum)) a n x ≤ 240000000 := fun n x hn => by
    have := best8_bd (M := 40000000) hf4 (show 1 ≤ a by omega) n x
    have h2 : (n : Int) * 40000000 ≤ 6 * 40000000 := Int.mul_le_mul_of_nonneg_right (by omega) (by omega)
    omega
  have hstep : ∀ n x, best8 (fun x : Nat => sh ((x : Int) - (ls.take i).sum)) a (n + 1) x = max (if 0 < x then best8 (fun x : Nat => sh ((x : Int) - (ls.take i).sum)) a (n + 1) (x - 1) else 0) (sh ((x : Int) - (ls.take i).sum) + if a ≤ x then best8 (fun x : Nat => sh ((x : Int) - (ls.take i).sum)) a n (x - a) else 0) := fun n x => by
    cases x with
    | zero => rw [best8_first, if_neg (by omega), if_neg (by omega)]; simp
    | succ x => rw [best8_succ]; simp only [Nat.zero_lt_succ, if_true, Nat.add_sub_cancel]
  have hzero : ∀ x, best8 (fun x : Nat => sh ((x : Int) - (ls.take i).sum)) a 0 x = 0 := fun x => best8_zero x
  generalize hBBe : best8 (fun x : Nat => sh ((x : Int) - (ls.take i).sum)) a = BB at *
  clear hBBe hshb hcu hL0
  generalize hate : (ls.take i).sum = at_ at *
  have hsnoc : ∀ k (h : k < ls.length), (ls.take (k + 1)).sum = (ls.take k).sum + ls[k] := fun k h => by rw [List.take_succ_eq_append_getElem h]; simp only [List.sum_append, List.sum_cons, List.sum_nil]; omega
  obtain ⟨hN0', hN1'⟩ : 0 ≤ BB p L + hf ∧ BB p L + hf ≤ 7200000000 := ⟨hN0, by omega⟩
  obtain ⟨o51, o52⟩ := o6
  obtain ⟨o8a, o8b⟩ := o8
  have hls : ls.length ≤ 4 := h4
  have HD := Lib.hid hD; have HCM := Lib.hid hCm; have HHF := Lib.hid hHf; have HSH := Lib.hid hSh; have HLD := Lib.hid hLd; have HRT := Lib.hid hrt; have HF4 := Lib.hid hf4; have HB0 := Lib.hid hb0; have HSTEP := Lib.hid hstep; have HZERO := Lib.hid hzero; have HATE := Lib.hid hate; have HSNOC := Lib.hid hsnoc; have HSB := Lib.hid hsb; have HLS := Lib.hid hL; have HO5 := Lib.hid o5; have HLI := Lib.hid hl
  clear hD hCm hHf hSh hLd hrt hf4 hb0 hstep hzero hate hsnoc hsb hL o5 hl hp hN0 hN1 o7 o9 o3
  obtain ⟨i0, hi0, hi1, hi2, hi3⟩ := info_parts info3
  have hu22 : Try.prog.underlying 22 = some (.slice 3) := Try.underlying22
  have HU := Lib.hid hu22; have HJ0 := Lib.hid hi0; have HJ1 := Lib.hid hi1; have HJ2 := Lib.hid hi2; have HJ3 := Lib.hid hi3
  clear hu22 hi0 hi1 hi2 hi3
  obtain ⟨j0, hj0, hj1, hj2, hj3⟩ := info_parts info22
  have hu41 : Try.prog.underlying 41 = some (.slice 22) := Try.underlying41
  have HV := Lib.hid hu41; have HK0 := Lib.hid hj0; have HK1 := Lib.hid hj1; have HK2 := Lib.hid hj2; have HK3 := Lib.hid hj3
  clear hu41 hj0 hj1 hj2 hj3
  have hi3 : ¬ ps.length ≤ i := by omega
  have hq1 : decide ((4 : Int) < (ls.length : Int)) = false := by simp; omega
  have hq2 : decide ((6 : Int) < (p : Int)) = false := by simp; omega
  have hq3 : decide ((i : Int) < 0) = false := by simp
  have hce : ∀ W, Below (w.heap.size + 1) (w.alloc (.cells #[.slice Ap ps.length cp, .slice Al ls.length cl, I own, I wt, I (a : Int), I (p : Int)] 24)) W →
      (W.cell? ⟨w.heap.size, 0, none⟩ = some (.slice Ap ps.length cp) ∧ W.cell? ⟨w.heap.size, 1, none⟩ = some (.slice Al ls.length cl) ∧ W.cell? ⟨w.heap.size, 2, none⟩ = some (I own) ∧ W.cell? ⟨w.heap.size, 3, none⟩ = some (I wt) ∧ W.cell? ⟨w.heap.size, 4, none⟩ = some (I (a : Int)) ∧ W.cell? ⟨w.heap.size, 5, none⟩ = some (I (p : Int))) ∧ Below w.heap.size w W ∧ w.heap.size + 1 ≤ W.heap.size := fun W hB => by
    refine ⟨⟨?_, ?_, ?_, ?_, ?_, ?_⟩, ((Below.refl _ w).alloc (Nat.le_refl _) _).trans (hB.mono (by omega)), by have := hB.size; simpa using this⟩
    iterate 6 (rw [hB.cell (p := ⟨w.heap.size, _, none⟩) (by simp)]; simp [go_sem])
  have HCE := Lib.hid hce
  clear hce
  go_enter Try.func4, Try.ntmps4
  go_wp2_with (first
    | (go_at_call 12; refine (HD.out _ (by (repeat' (first | assumption | exact Below.refl _ _ | refine Below.drew ?_ | refine below_drewN ?_ _ | refine Below.setCell ?_ (by first | omega | (simp; done) | (simp; omega)) _ | refine Below.alloc ?_ (by first | omega | (simp; done) | (simp; omega)) _ | refine Below.trans ?_ (Below.mono (by assumption) (by first | omega | (simp; done) | (simp; omega))))))).mono ?_; rintro e w1 ⟨rfl, hB1⟩; have hw1 : Below (w.heap.size + 1) (w.alloc (.cells #[.slice Ap ps.length cp, .slice Al ls.length cl, I own, I wt, I (a : Int), I (p : Int)] 24)) w1 := (by simpa using hB1); obtain ⟨⟨c1, c2, c3, c4, c5, c6⟩, hqw1, hzw1⟩ := HCE.out w1 hw1; clear hB1)
    | fail)
  go_loopw [5, 6, 45] (fun s5 s6 s45 wr => ∃ k : Nat, k ≤ ls.length ∧ s45 = I k ∧ s5 = I (ls.take k).sum ∧ s6 = I (ls.take (min k i)).sum ∧ Below w1.heap.size w1 wr) (fun _ _ s45 _ => ls.length - (intOf s45).toNat)
  case atStart => exact ⟨0, Nat.zero_le _, rfl, by simp, by simp, Below.refl _ _⟩
  case round =>
    obtain ⟨k, hk, rfl, rfl, rfl, hBr⟩ := hrel
    have hwr := hw1.trans (hBr.mono hzw1)
    clear c1 c2 c3 c4 c5 c6
    obtain ⟨⟨c1, c2, c3, c4, c5, c6⟩, hqr, hzwr⟩ := HCE.out wr hwr
    have hs1 := HSB.out k
    have hs2 := HSB.out (min k i)
    by_cases hlt : k < ls.length
    · have hk1 := HSNOC.out k hlt
      have hk2 : (ls.take (min (k + 1) i)).sum = (ls.take (min k i)).sum + if k < i then ls[k] else 0 := by
        by_cases h : k < i
        · rw [if_pos h, show min (k + 1) i = k + 1 by omega, show min k i = k by omega, hk1]
        · rw [if_neg h, show min (k + 1) i = i by omega, show min k i = i by omega]; simp
      obtain ⟨b, off, rfl, hb, hcs⟩ := (HLI.out.below hqr) (by omega)
      have hcell := hcs k hlt
      have hbd := HO5.out k hlt
      have HK1 := Lib.hid hk1
      have HK2 := Lib.hid hk2
      clear hcs hk1 hk2
      generalize ls[k] = z at *
      generalize hsa : (ls.take k).sum = sa at *
      generalize hsb' : (ls.take (min k i)).sum = sb at *
      have HSA := Lib.hid hsa
      have HSB2 := Lib.hid hsb'
      clear hsa hsb'
      by_cases h24 : 24 < z
      · go_wp2_with (go_at_call 13; refine (alive_any _).mono ?_; rintro e w8 ⟨rfl, hB8⟩)
        go_ret
        exact ⟨rfl, hqr.trans (hB8.mono hqr.size)⟩
      · by_cases hki : k < i
        · go_wp2
          go_roundw
          case rel => exact ⟨k + 1, by omega, by go_num, by rw [HK1.out], by rw [HK2.out, if_pos hki], hBr⟩
          case measure => simp [intOf]; omega
        · go_wp2
          go_roundw
          case rel => exact ⟨k + 1, by omega, by go_num, by rw [HK1.out], by rw [HK2.out, if_neg hki, Int.add_zero], hBr⟩
          case measure => simp [intOf]; omega
    · obtain rfl : k = ls.length := by omega
      have e1 : (ls.take ls.length).sum = (L : Int) := by rw [List.take_length, HLS.out]
      have e2 : (ls.take (min ls.length i)).sum = at_ := by
        rw [← HATE.out]
        by_cases h : i ≤ ls.length
        · rw [show min ls.length i = i by omega]
        · rw [show min ls.length i = ls.length by omega, List.take_of_length_le (by omega), List.take_of_length_le (show ls.length ≤ i by omega)]
      rw [e1, e2]
      clear e1 e2 hs1 hs2
      go_wp2
      have HW : Hid (Below (w.heap.size + 1) (w.alloc (.cells #[.slice Ap ps.length cp, .slice Al ls.length cl, I own, I wt, I (a : Int), I (p : Int)] 24)) wr) := Lib.hid hwr
      clear hBr hwr hqr hzwr c1 c2 c3 c4 c5 c6 hlt
      go_loopw [9, 65] (fun s9 s65 W => ∃ x : Nat, x ≤ L + 1 ∧ s65 = I x ∧ Hid (Below (w.heap.size + 1) (w.alloc (.cells #[.slice Ap ps.length cp, .slice Al ls.length cl, I own, I wt, I (a : Int), I (p : Int)] 24)) W) ∧ Hid (∃ gs, Mat W (w.heap.size + 1) s9 x (p + 1) (fun j n => BB n j) gs)) (fun _ s65 _ => L + 1 - (intOf s65).toNat)
      case atStart => exact ⟨0, by omega, rfl, HW, Lib.hid ⟨_, Mat.nil _ _ _ _⟩⟩
      case round =>
        obtain ⟨x, hx, rfl, hW, hM⟩ := hrel
        clear HW
        have hwr := hW.out
        obtain ⟨⟨c1, c2, c3, c4, c5, c6⟩, hqr, hzwr⟩ := HCE.out wr hwr
        by_cases hlx : x < L + 1
        · obtain ⟨gs, hMat⟩ := hM.out
          obtain ⟨A, cA, rfl, _⟩ := hMat.row
          obtain ⟨g, hg⟩ : ∃ g, g = wr.heap.size := ⟨_, rfl⟩
          have HMAT := Lib.hid hMat
          clear hM hMat
          go_wp2_with (at_make; refine wpList_make_row _ rfl _ _ 22 rfl 3 i0 (.int .i64 0) HU.out HJ0.out HJ1.out HJ2.out rfl .i64 .i64 (p + 1) rfl rfl (by rw [HJ3.out]; omega) (by omega) ?_)
          have hr0 := World.rowIs_made wr (.int .i64 0) (p + 1) 3
          have hBy : Below wr.heap.size wr (wr.alloc (.cells (madeCells #[.int .i64 0] (p + 1)) 3)) := (Below.refl _ _).alloc (Nat.le_refl _) _
          rw [← hg] at hr0 hBy
          obtain ⟨wy, hwy⟩ : ∃ wy, wy = wr.alloc (.cells (madeCells #[.int .i64 0] (p + 1)) 3) := ⟨_, rfl⟩
          rw [← hwy] at hr0 hBy
          rw [← hwy, ← hg]
          clear hwy
          have HR0 := Lib.hid hr0
          have HBY := Lib.hid hBy
          have HQR := Lib.hid hqr
          clear hr0 hBy hqr c1 c2 c3 c4 c5 c6
          have hgz : w.heap.size + 1 ≤ g := by omega
          have HG := Lib.hid hg
          clear hg
          go_loopw [74] (fun s74 W => ∃ n : Nat, n ≤ p + 1 ∧ s74 = I n ∧ Hid (Below g wr W) ∧ g < W.heap.size ∧ Hid (W.rowIs g 3 (p + 1) (fun m => I (if m < n then BB m x else 0)))) (fun s74 _ => p + 1 - (intOf s74).toNat)
          case atStart => exact ⟨0, by omega, rfl, HBY, HR0.out.lt, Lib.hid (by simpa using HR0.out)⟩
          case round =>
            obtain ⟨n, hn, rfl, hB, hgl, hR⟩ := hrel
            have hMW := HMAT.out.call (by rw [← HG.out]; exact hB.out)
            have hwW := hwr.trans (hB.out.mono (by rw [HG.out]; exact hzwr))
            obtain ⟨⟨c1, c2, c3, c4, c5, c6⟩, hqW, hzW⟩ := HCE.out wr hwW
            by_cases hlt : n < p + 1
            · have hcell := hR.out.cell hlt
              have hfr := hR.out.frozen n
              rw [if_neg (Nat.lt_irrefl n)] at hcell
              have HMW := Lib.hid hMW
              clear hMW
              by_cases hx0 : 0 < x
              · obtain ⟨bv, rfl, hbv, hcs⟩ := HMW.out.row' hx0
                have hc1 := hcs (x - 1) (by omega)
                obtain ⟨hl1, hv1⟩ := HMW.out.at_ (x - 1) n (by omega) hlt
                have hb1 := HB0.out n (x - 1) (by omega)
                clear hcs
                by_cases hn0 : n = 0
                · subst hn0
                  go_wp2_with fail
                  go_roundw
                  case rel => exact ⟨1, by omega, by go_num, Lib.hid (hB.out.setCell (Nat.le_refl _) _), by simpa using hgl, Lib.hid ((hR.out.set 0 _).congr fun m hm => by
                    by_cases e : m = 0
                    · subst e; simp [HZERO.out]
                    · first | (simp [e]; done) | (simp [e]; omega))⟩
                  case measure => first | (simp [intOf]; done) | (simp [intOf]; omega)
                · obtain ⟨n', rfl⟩ : ∃ n', n = n' + 1 := ⟨n - 1, by omega⟩
                  have hst := HSTEP.out n' x
                  rw [if_pos hx0] at hst
                  have hqA := hqW.setCell (p := ⟨g, n' + 1, none⟩) (by first | omega | (simp; omega)) (I (BB (n' + 1) (x - 1)))
                  have hBA := hB.out.setCell (p := ⟨g, n' + 1, none⟩) (Nat.le_refl _) (I (BB (n' + 1) (x - 1)))
                  have hf1 := HF4.out x
                  have HST := Lib.hid hst
                  clear hst
                  by_cases hax : a ≤ x
                  · have hst := HST.out
                    clear HST
                    rw [if_pos hax] at hst
                    have HST := Lib.hid hst
                    clear hst
                    have hax' : x - a < x := by omega
                    go_wp2_with (go_at_call 18; refine (HSH.out _ hqA ((x : Int) - at_) ⟨by omega, by omega⟩).mono ?_; rintro e w5 ⟨rfl, hB5⟩; have hB5A := hB5; have hz5 := hB5.size; have hgl5 : g < w5.heap.size := (by simp at hz5; omega); have hB5g := hBA.trans (hB5.mono (by simp; omega)); have hM5 := HMAT.out.call (by rw [← HG.out]; exact hB5g); have hR5 := Lib.hid (rowIs_call (hR.out.set (n' + 1) (I (BB (n' + 1) (x - 1)))) hB5); have hcell5 := hR5.out.cell hlt; have hfr5 := hR5.out.frozen (n' + 1); rw [if_pos rfl] at hcell5; obtain ⟨⟨d1, d2, d3, d4, d5, d6⟩, hqW5, hzW5⟩ := HCE.out w5 (hwr.trans (hB5g.mono (by rw [HG.out]; exact hzwr))); obtain ⟨bv', e', hbv', hcs'⟩ := hM5.row' hx0; cases e'; have hc5 := hcs' (x - a) hax'; obtain ⟨hl5, hv5⟩ := hM5.at_ (x - a) n' hax' (by omega); have hb5 := HB0.out n' (x - a) (by omega); clear hcs' hM5)
                    go_roundw
                    case rel => exact ⟨n' + 1 + 1, by omega, by go_num, Lib.hid (hB5g.setCell (Nat.le_refl _) _), by simpa using hgl5, Lib.hid ((hR5.out.set (n' + 1) _).congr fun m hm => by
                      by_cases e : m = n' + 1
                      · subst e; simp [HST.out]
                      · by_cases e2 : m < n' + 1 <;> simp [e] <;> omega)⟩
                    case measure => simp [intOf]; omega
                  · have hst := HST.out
                    clear HST
                    rw [if_neg hax, Int.add_zero] at hst
                    have HST := Lib.hid hst
                    clear hst
                    go_wp2_with (go_at_call 18; refine (HSH.out _ hqA ((x : Int) - at_) ⟨by omega, by omega⟩).mono ?_; rintro e w5 ⟨rfl, hB5⟩; have hB5A := hB5; have hz5 := hB5.size; have hgl5 : g < w5.heap.size := (by simp at hz5; omega); have hB5g := hBA.trans (hB5.mono (by simp; omega)); have hM5 := HMAT.out.call (by rw [← HG.out]; exact hB5g); have hR5 := Lib.hid (rowIs_call (hR.out.set (n' + 1) (I (BB (n' + 1) (x - 1)))) hB5); have hcell5 := hR5.out.cell hlt; have hfr5 := hR5.out.frozen (n' + 1); rw [if_pos rfl] at hcell5; obtain ⟨⟨d1, d2, d3, d4, d5, d6⟩, hqW5, hzW5⟩ := HCE.out w5 (hwr.trans (hB5g.mono (by rw [HG.out]; exact hzwr))); clear hM5)
                    go_roundw
                    case rel => exact ⟨n' + 1 + 1, by omega, by go_num, Lib.hid (hB5g.setCell (Nat.le_refl _) _), by simpa using hgl5, Lib.hid ((hR5.out.set (n' + 1) _).congr fun m hm => by
                      by_cases e : m = n' + 1
                      · subst e; simp [HST.out]
                      · by_cases e2 : m < n' + 1 <;> simp [e] <;> omega)⟩
                    case measure => simp [intOf]; omega
              · have hax : ¬ a ≤ x := by omega
                have k1 : decide ((0 : Int) < (x : Int)) = false := by simp; omega
                have k2 : decide ((a : Int) ≤ (x : Int)) = false := by simp; omega
                have HX0 := Lib.hid hx0
                have HAX := Lib.hid hax
                clear hx0 hax
                by_cases hn0 : n = 0
                · subst hn0
                  go_wp2_with fail
                  go_roundw
                  case rel => exact ⟨1, by omega, by go_num, hB, hgl, Lib.hid (hR.out.congr fun m hm => by
                    by_cases e : m = 0
                    · subst e; simp [HZERO.out]
                    · first | (simp [e]; done) | (simp [e]; omega))⟩
                  case measure => first | (simp [intOf]; done) | (simp [intOf]; omega)
                · obtain ⟨n', rfl⟩ : ∃ n', n = n' + 1 := ⟨n - 1, by omega⟩
                  have hst := HSTEP.out n' x
                  rw [if_neg HX0.out, if_neg HAX.out, Int.add_zero] at hst
                  have hf1 := HF4.out x
                  have HST := Lib.hid hst
                  clear hst
                  have hx00 : (x : Int) ≤ 0 := by have := HX0.out; omega
                  have HX00 := Lib.hid hx00
                  clear hx00
                  go_wp2_with (go_at_call 18; refine (HSH.out _ hqW ((x : Int) - at_) ⟨by omega, by omega⟩).mono ?_; rintro e w5 ⟨rfl, hB5⟩; have hB5A := hB5; have hz5 := hB5.size; have hgl5 : g < w5.heap.size := (by omega); have hB5g := hB.out.trans (hB5.mono (by omega)); have hM5 := HMAT.out.call (by rw [← HG.out]; exact hB5g); have hR5 := Lib.hid (rowIs_call hR.out hB5); have hcell5 := hR5.out.cell hlt; have hfr5 := hR5.out.frozen (n' + 1); rw [if_neg (Nat.lt_irrefl _)] at hcell5; obtain ⟨⟨d1, d2, d3, d4, d5, d6⟩, hqW5, hzW5⟩ := HCE.out w5 (hwr.trans (hB5g.mono (by rw [HG.out]; exact hzwr))); clear hM5)
                  go_roundw
                  case rel => exact ⟨n' + 1 + 1, by omega, by go_num, Lib.hid (hB5g.setCell (Nat.le_refl _) _), by simpa using hgl5, Lib.hid ((hR5.out.set (n' + 1) _).congr fun m hm => by
                    by_cases e : m = n' + 1
                    · subst e; simp [HST.out]
                    · by_cases e2 : m < n' + 1 <;> simp [e] <;> omega)⟩
                  case measure => simp [intOf]; omega
            · obtain rfl : n = p + 1 := by omega
              have hrow : wr.rowIs g 3 (p + 1) (fun m => I (BB m x)) := hR.out.congr fun m hm => by rw [if_pos hm]
              have hne : (Value.slice A x cA).ownBlock ≠ some g := fun e => by
                have := HMAT.out.own.lt g e
                rw [← HG.out] at this
                omega
              have hMa := hMW.call ((Below.refl _ wr).alloc (Nat.le_refl _) (.cells #[.slice (some ⟨g, 0, none⟩) (p + 1) (p + 1)] 22))
              have hra := rowIs_call hrow ((Below.refl _ wr).alloc (Nat.le_refl _) (.cells #[.slice (some ⟨g, 0, none⟩) (p + 1) (p + 1)] 22))
              have hba := hwW.alloc hzW (.cells #[.slice (some ⟨g, 0, none⟩) (p + 1) (p + 1)] 22)
              have HMA := Lib.hid hMa
              have HRA := Lib.hid hra
              have HBA := Lib.hid hba
              have HNE := Lib.hid hne
              clear hMa hra hba hne hrow hMW hR
              go_wp2_with (at_builtin; refine wpList_append_any _ rfl _ _ 41 rfl (w.heap.size + 1) 22 j0 (.slice none 0 0) 1 24 HV.out HK0.out HK1.out HK2.out HK3.out rfl (by decide) _ _ _ rfl HMA.out.own (some ⟨wr.heap.size, 0, none⟩) 1 1 [.slice (some ⟨g, 0, none⟩) (p + 1) (p + 1)] rfl rfl (fun _ => ⟨_, rfl, new1 wr _ 22⟩) (fun u hu => by simp at hu; subst hu; rfl) (by simp [maxLen]; omega) (by omega) (by simp; omega) ?_; intro v9 w9 hown9 hg9; have HM9 := Lib.hid (HMA.out.push (by omega) HRA.out HNE.out hown9 hg9); have HB9 := Lib.hid (HBA.out.grown hg9 (by simp; omega) (fun k hk => (HMA.out.own.lt k hk).1)); clear hown9 hg9)
              go_roundw
              case rel => exact ⟨x + 1, by omega, by go_num, HB9, Lib.hid ⟨_, HM9.out⟩⟩
              case measure => simp [intOf]; omega
        · obtain rfl : x = L + 1 := by omega
          obtain ⟨gs, hMat⟩ := hM.out
          obtain ⟨A, cA, rfl, _⟩ := hMat.row
          have HMAT := Lib.hid hMat
          clear hM hMat
          go_wp2_with (go_at_call 14; refine (HLD.out wr hqr).mono ?_; rintro e w6 ⟨rfl, hB6⟩)
          have hBn : Below (w6.heap.size + 1) (w6.alloc (.cells #[I ((BB p L + hf) / gg), I (C / gg)] 33)) (w6.alloc (.cells #[I ((BB p L + hf) / gg), I (C / gg)] 33)) := Below.refl _ _
          have hB7 : Below wr.heap.size wr (w6.alloc (.cells #[I ((BB p L + hf) / gg), I (C / gg)] 33)) := hB6.alloc hB6.size _
          have hnew : ∀ W, Below (w6.heap.size + 1) (w6.alloc (.cells #[I ((BB p L + hf) / gg), I (C / gg)] 33)) W → (W.cell? ⟨w6.heap.size, 0, none⟩ = some (I ((BB p L + hf) / gg)) ∧ W.cell? ⟨w6.heap.size, 1, none⟩ = some (I (C / gg))) ∧ Below wr.heap.size wr W := fun W hB =>
            ⟨⟨by rw [hB.cell (p := ⟨w6.heap.size, _, none⟩) (by simp)]; simp [go_sem], by rw [hB.cell (p := ⟨w6.heap.size, _, none⟩) (by simp)]; simp [go_sem]⟩, hB7.trans (hB.mono (by have := hB6.size; omega))⟩
          have HNEW := Lib.hid hnew
          have HWR := Lib.hid hwr
          have HZR := Lib.hid hzwr
          have HMB : ∀ W, Below wr.heap.size wr W → Mat W (w.heap.size + 1) (.slice A (L + 1) cA) (L + 1) (p + 1) (fun j n => BB n j) gs := fun W h => HMAT.out.call h
          obtain ⟨bv, rfl, hbv, _⟩ := HMAT.out.row' (by omega)
          have HMB2 := Lib.hid HMB
          have hgL := (HMAT.out.at_ L p (by omega) (by omega)).1
          have hsum : IntKind.i64.wrap (BB p L + hf) = BB p L + hf := IntWalk.i64_in _ (by omega)
          clear hnew hwr HMB hB7 hBn c1 c2 c3 c4 c5 c6 hqr hzwr
          refine (wpIn_wide (n := 9)).1 ?_
          refine wpIn_region_valsG [some 136, some 137, some 138, some 139, some 140, some 141, some 142, some 143, some 144, some 145, some 146, some 147, some 148, some 149, some 150, some 151, some 152, some 153, some 154, some 155, some 156, some 157, some 158, some 159, some 160, some 4]
            (nthV [I 0, .bool true, .bool true, .agg #[I ((BB p L + hf) / gg), I (C / gg)], .slice (some ⟨bv, 0, none⟩) (L + 1) cA, I L, .pointer (some ⟨bv, L, none⟩), .slice (some ⟨gs L, 0, none⟩) (p + 1) (p + 1), .pointer (some ⟨w.heap.size, 5, none⟩), I p, .pointer (some ⟨gs L, p, none⟩), I (BB p L), .agg #[.slice Ap ps.length cp, .slice Al ls.length cl, I own, I wt, I (a : Int), I (p : Int)], I i, I hf, I (BB p L + hf), .agg #[.slice Ap ps.length cp, .slice Al ls.length cl, I own, I wt, I (a : Int), I (p : Int)], I i, I C, .agg #[I ((BB p L + hf) / gg), I (C / gg)], .bool true, .bool true, .bool true, .bool true, .bool true, .bool true])
            (fun W => Below (w6.heap.size + 1) (w6.alloc (.cells #[I ((BB p L + hf) / gg), I (C / gg)] 33)) W) rfl (by kernel_rfl) (by kernel_rfl) (by kernel_rfl) (fun _ d _ _ _ h => by cases d <;> exact h) (Below.refl _ _).drew ?_ ?_
          · refine ⟨?_, ?_, ?_, ?_, ?_, ?_, ?_, ?_, ?_, ?_, ?_, ?_, ?_, ?_, ?_, ?_, ?_, ?_, ?_, ?_, ?_, ?_, ?_, ?_, ?_, ?_, trivial⟩
            all_goals ((intro x W hC K hK; have HK := Lib.hid hK; have HC := Lib.hid hC; clear hC hK; simp only [putD, nthV, Act.put, List.setIfInBounds_toArray, List.set_cons_succ, List.set_cons_zero, Nat.zero_add, Nat.reduceAdd, Nat.reduceEqDiff, reduceIte , Nat.succ_ne_zero, Nat.zero_ne_one, Nat.one_ne_zero] at HK ⊢); obtain ⟨⟨n0, n1⟩, hBr⟩ := HNEW.out _ HC.out; obtain ⟨⟨e1, e2, e3, e4, e5, e6⟩, hqW, hzW⟩ := HCE.out _ (HWR.out.trans (hBr.mono HZR.out)); have hm := HMB2.out _ hBr; obtain ⟨bv', e', hbv', hcs'⟩ := hm.row' (by omega); cases e'; have hc5 := hcs' L (by omega); obtain ⟨hl5, hv5⟩ := hm.at_ L p (by omega) (by omega); clear hcs' hm; refine ⟨rfl, ?_⟩)
            all_goals first
              | (refine op_li rfl ?_; go_simp; exact HK.out _ HC.out)
              | (gi_wp2_with (refine And.intro trivial ?_; gi_at_call 20; refine callsIn_wide.2 ((HHF.out _ hqW).mono ?_); rintro e w7 ⟨rfl, hB7⟩)
                 exact HK.out _ (HC.out.trans (hB7.mono (by have := HC.out.size; simp at this; omega))))
              | (gi_wp2_with (refine And.intro trivial ?_; gi_at_call 17; refine callsIn_wide.2 ((HCM.out _ hqW).mono ?_); rintro e w7 ⟨rfl, hB7⟩)
                 exact HK.out _ (HC.out.trans (hB7.mono (by have := HC.out.size; simp at this; omega))))
              | (gi_wp2_with (refine And.intro trivial ?_; gi_at_call 19; refine callsIn_wide.2 ((HRT.out _).mono ?_); rintro e w7 ⟨rfl, hB7⟩)
                 exact HK.out _ (HC.out.trans (hB7.mono (by have := HC.out.size; simp at this; omega))))
              | (gi_wp2_with (refine And.intro trivial ?_; gi_at_call 13; refine callsIn_wide.2 ((alive_any _).mono ?_); rintro e w7 ⟨rfl, hB7⟩)
                 exact HK.out _ (HC.out.trans (hB7.mono (by have := HC.out.size; simp at this; omega))))
              | (gi_wp2; exact HK.out _ HC.out)
              | (gi_wp2; trace_state; sorry)
          · (intro W hC; have HC := Lib.hid hC; clear hC; simp only [putD, nthV, Act.put, List.setIfInBounds_toArray, List.set_cons_succ, List.set_cons_zero, Nat.zero_add, Nat.reduceAdd])
            go_wp2
            go_ret
            exact ⟨rfl, (HCE.out _ (HWR.out.trans ((HNEW.out _ HC.out).2.mono HZR.out))).2.1⟩
end Go.Proofs.Ytilmlgngnbokfaa
