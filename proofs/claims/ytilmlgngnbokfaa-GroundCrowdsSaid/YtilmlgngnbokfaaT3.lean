/- GroundCrowds: the walk. -/
import Derived.Test.YtilmlgngnbokfaaC2
import Derived.Test.YtilmlgngnbokfaaX5
import Derived.Test.YtilmlgngnbokfaaBx
import Derived.Test.YtilmlgngnbokfaaEv
import Derived.Test.YtilmlgngnbokfaaG1
namespace Go.Proofs.Ytilmlgngnbokfaa
set_option linter.unusedVariables false
set_option linter.unusedSimpArgs false
open Go.RowKit

/-- A row of bytes. -/
def Bytes (w : World) (B : Nat) (A : Option Addr) (ys : List Int) : Prop :=
  (0 < ys.length → ∃ b off, A = some ⟨b, off, none⟩ ∧ b < B ∧ ∀ k (h : k < ys.length), w.cell? ⟨b, off + k, none⟩ = some (.int .u8 ys[k])) ∧ ∀ y ∈ ys, 0 ≤ y ∧ y ≤ 255

theorem bears_le {d : Deck} {c : Int} (h : d.ok c) (i : Nat) (xs : List Int) (hg : Gaps d.apart xs) (hn : (xs.length : Int) ≤ d.persons) : bearsN d i xs ≤ presN d i := by
  obtain ⟨hl, hr⟩ := beam_bd h i
  have hp := presN_all h i
  obtain ⟨_, _, _, _, _, _, o5, o6, _⟩ := h
  have := crowd_le (l := leftOf d.lengths i) (r := rightOf d.lengths i) hl hr o5 o6 (xs.map fun x => x - (d.lengths.take i).sum) (hg.shift _) (by simpa using hn)
  rw [List.map_map] at this
  rw [hp]
  unfold bearsN shareD
  have e : (xs.map (shareU (leftOf d.lengths i) (rightOf d.lengths i) d.weight ∘ fun x => x - (d.lengths.take i).sum)) = xs.map fun x => shareU (leftOf d.lengths i) (rightOf d.lengths i) d.weight (x - (d.lengths.take i).sum) := rfl
  rw [e] at this
  omega
theorem bears_nonneg {d : Deck} {c : Int} (h : d.ok c) (i : Nat) (xs : List Int) : 0 ≤ bearsN d i xs := by
  obtain ⟨hl, hr⟩ := beam_bd h i
  obtain ⟨_, _, _, _, _, o4, o5, o6, _⟩ := h
  have h1 := half_bd hl hr o4
  have h2 := sum_le (M := 500 * comU (leftOf d.lengths i) (rightOf d.lengths i)) (xs.map fun x => shareD d i (x - (d.lengths.take i).sum)) (fun v hv => by
    obtain ⟨y, _, rfl⟩ := List.mem_map.1 hv
    exact share_nonneg hl hr o5 _)
  unfold bearsN
  omega

set_option maxRecDepth 100000 in
set_option maxHeartbeats 8000000 in
theorem crowds_yes (Ap Al : Option Addr) (cp cl : Nat) (d : Deck) (B : Option Addr) (cb : Nat) (ys : List Int) (w : World) (hp : Ints w w.heap.size Ap d.posts) (hl : Ints w w.heap.size Al d.lengths) (hd : d.ok 400)
    (hy : Bytes w w.heap.size B ys) (hyl : ys.length ≤ 9223372036854775807) (hy0 : 0 < ys.length) :
    Calls Try.prog 3 #[d.val Ap Al cp cl, .slice B ys.length cb] w fun e w' => e = .returned (.bool true) ∧ Below w.heap.size w w' := by
  have hpl : d.posts.length ≤ 24 := hd.2.1
  have hbl : d.lengths.length ≤ 24 := by have := hd.2.2.1; omega
  have hd6 : d.ok 1000000 := Deck.ok_more hd (by omega)
  have hG : ∀ W, Below w.heap.size w W → Calls Try.prog 11 #[.agg #[I 0, I 0, .slice none 0 0], .slice none 0 0, d.val Ap Al cp cl] W (RetSome W) := fun W hB =>
    great_any none 0 ⟨0, 0, []⟩ none 0 0 Ap Al cp cl d W ((hl.below hB).more hB.size) (by omega)
  have hD : ∀ W, Below w.heap.size w W → Calls Try.prog 12 #[d.val Ap Al cp cl, I 400] W fun e w' => e = .returned (.bool true) ∧ Below W.heap.size W w' := fun W hB =>
    (refDeck_any _ _ cp cl d 400 W ((hp.below hB).more hB.size) ((hl.below hB).more hB.size) (by omega) (by omega) (by omega)).mono fun e w' ⟨b, h1, h2, h3⟩ => ⟨by rw [h1, show b = true from h2.2 hd], h3⟩
  have hround : ∀ j, j < d.posts.length → ∃ p1 p2 C : Int, (0 ≤ p1 ∧ p1 ≤ 100000000000) ∧ (1 ≤ p2 ∧ p2 ≤ 80000) ∧ (1 ≤ C ∧ C ≤ 80000) ∧
      (∀ W, Below w.heap.size w W → Calls Try.prog 14 #[d.val Ap Al cp cl, I j] W fun e w' => e = .returned (.tuple #[.agg #[I p1, I p2], I 0]) ∧ Below W.heap.size W w') ∧
      (∀ W, Below w.heap.size w W → Calls Try.prog 17 #[d.val Ap Al cp cl, I j] W fun e w' => e = .returned (I C) ∧ Below W.heap.size W w') ∧
      (∀ xs, Gaps d.apart xs → (xs.length : Int) ≤ d.persons → (∀ x ∈ xs, 0 ≤ x ∧ x ≤ 10000) → ∃ b : Int, (0 ≤ b ∧ b ≤ 10000000000) ∧ b * p2 ≤ p1 * C ∧ ∀ W A c, Below w.heap.size w W → Ints W W.heap.size A xs → Calls Try.prog 16 #[d.val Ap Al cp cl, I j, .slice A xs.length c] W (RetI b W)) := fun j hj => by
    have hrep := pres_rep hd j hj
    obtain ⟨v1, v2, v3, v4⟩ := pres_bd hd j hj
    have hpd := rep_den_le v1 (show Rep (presC d j) ((pres d j).1, (pres d j).2) (presN d j) from hrep)
    have hpn := rep_le (M := 90000) v1 (show Rep (presC d j) ((pres d j).1, (pres d j).2) (presN d j) from hrep) v4
    refine ⟨(pres d j).1, (pres d j).2, presC d j, ⟨hrep.1, by omega⟩, ⟨hrep.2.1, by omega⟩, ⟨by omega, v2⟩, fun W hB => ?_, fun W hB => common_any Ap Al cp cl d j W ⟨(hp.below hB).more hB.size, (hl.below hB).more hB.size⟩ hd6 hj, fun xs hg hn hb => ?_⟩
    · have := Load_any Ap Al cp cl d j W ((hp.below hB).more hB.size) ((hl.below hB).more hB.size) (by omega) (by omega)
      have hres : loadRes d j = (pres d j, 0) := by unfold loadRes; rw [if_pos hd, if_pos ⟨by omega, by omega⟩]; simp
      rw [hres] at this
      exact this
    · have h1 := bears_le hd j xs hg hn
      have h2 := bears_nonneg hd j xs
      refine ⟨bearsN d j xs, ⟨h2, by omega⟩, ?_, fun W A c hB hi => bears_any Ap Al cp cl d j A c xs W ⟨(hp.below hB).more hB.size, (hl.below hB).more hB.size⟩ hd6 hj hi (by have := hd.2.2.2.2.2.2.2.2; omega) hb⟩
      have h3 : (pres d j).1 * presC d j = presN d j * (pres d j).2 := hrep.2.2.2
      rw [h3]
      exact Int.mul_le_mul_of_nonneg_right h1 (by have := hrep.2.1; omega)
  obtain ⟨o1, o2, o3, _, o5, o6, o7, o8, o9⟩ := hd
  obtain ⟨ps, ls, own, wt, ap, pe⟩ := d
  simp only [Deck.val] at *
  have hsum : ∀ k, k ≤ ls.length → 0 ≤ (ls.take k).sum ∧ (ls.take k).sum ≤ k * 200 := fun k hk => by
    have h1 := sum_le (M := 200) (ls.take k) (fun v hv => by
      obtain ⟨j, hj, rfl⟩ := List.mem_iff_getElem.1 (List.mem_of_mem_take hv)
      have := o5 j hj
      omega)
    have h2 : (ls.take k).length ≤ k := List.length_take_le _ _
    exact ⟨h1.1, Int.le_trans h1.2 (Int.mul_le_mul_of_nonneg_right (by omega) (by omega))⟩
  obtain ⟨hyc, hyb⟩ := hy
  obtain ⟨yb, yo, rfl, hyb2, hyc⟩ := hyc hy0
  have HG := Lib.hid hG; have HD := Lib.hid hD; have HR := Lib.hid hround; have HSUM := Lib.hid hsum; have HYC := Lib.hid hyc; have HYB := Lib.hid hyb; have HLI := Lib.hid hl
  obtain ⟨i0, hi0, hi1, hi2, hi3⟩ := info_parts info3
  have hu22 : Try.prog.underlying 22 = some (.slice 3) := Try.underlying22
  have HU := Lib.hid hu22; have HI0 := Lib.hid hi0; have HI1 := Lib.hid hi1; have HI2 := Lib.hid hi2; have HI3 := Lib.hid hi3
  clear hG hD hround hsum hyc hyb o5 hp hl hd6 hu22 hi0 hi1 hi2 hi3
  have hce : ∀ W, Below (w.heap.size + 1) (w.alloc (.cells #[.slice Ap ps.length cp, .slice Al ls.length cl, I own, I wt, I ap, I pe] 24)) W →
      (W.cell? ⟨w.heap.size, 0, none⟩ = some (.slice Ap ps.length cp) ∧ W.cell? ⟨w.heap.size, 1, none⟩ = some (.slice Al ls.length cl) ∧ W.cell? ⟨w.heap.size, 2, none⟩ = some (I own) ∧ W.cell? ⟨w.heap.size, 3, none⟩ = some (I wt) ∧ W.cell? ⟨w.heap.size, 4, none⟩ = some (I ap) ∧ W.cell? ⟨w.heap.size, 5, none⟩ = some (I pe)) ∧ Below w.heap.size w W ∧ w.heap.size + 1 ≤ W.heap.size := fun W hB => by
    refine ⟨⟨?_, ?_, ?_, ?_, ?_, ?_⟩, ((Below.refl _ w).alloc (Nat.le_refl _) _).trans (hB.mono (by omega)), by have := hB.size; simpa using this⟩
    iterate 6 (rw [hB.cell (p := ⟨w.heap.size, _, none⟩) (by simp)]; simp [go_sem])
  have HCE := Lib.hid hce
  clear hce
  have hyI : ((ys.length : Int) == 0) = false := by rw [beq_eq_false_iff_ne]; omega
  have hyI2 : (0 : Int) < (ys.length : Int) := by omega
  go_enter Try.func3, Try.ntmps3
  go_wp2_with (first
    | (go_at_call 11; refine (HG.out _ (by (repeat' (first | assumption | exact Below.refl _ _ | refine Below.drew ?_ | refine below_drewN ?_ _ | refine Below.setCell ?_ (by first | omega | (simp; done) | (simp; omega)) _ | refine Below.alloc ?_ (by first | omega | (simp; done) | (simp; omega)) _ | refine Below.trans ?_ (Below.mono (by assumption) (by first | omega | (simp; done) | (simp; omega))))))).mono ?_; rintro e w1 ⟨_ | _, rfl, hB1⟩ <;> (have hw1 : Below (w.heap.size + 1) (w.alloc (.cells #[.slice Ap ps.length cp, .slice Al ls.length cl, I own, I wt, I ap, I pe] 24)) w1 := (by simpa using hB1); obtain ⟨⟨a1, a2, a3, a4, a5, a6⟩, hqw1, hzw1⟩ := HCE.out w1 hw1; clear hB1))
    | (go_at_call 12; refine (HD.out _ hqw1).mono ?_; rintro e w2 ⟨rfl, hB⟩; have hw2 := hw1.trans (hB.mono hzw1); obtain ⟨⟨b1, b2, b3, b4, b5, b6⟩, hqw2, hzw2⟩ := HCE.out w2 hw2; clear hB)
    | (go_at_call 13; refine (alive_any _).mono ?_; rintro e w8 ⟨rfl, hB8⟩))
  · go_loop [5, 7, 30] (fun s5 s7 s30 => ∃ k : Nat, k ≤ ls.length ∧ s30 = I k ∧ s5 = I (ls.take k).sum) (fun _ _ s30 => ls.length - (intOf s30).toNat)
    case atStart => exact ⟨0, by omega, rfl, rfl⟩
    case round =>
      obtain ⟨k, hk, rfl, rfl⟩ := hrel
      by_cases hlt : k < ls.length
      · obtain ⟨lb, lo, rfl, hlb, hlc⟩ := (HLI.out.below hqw2) (by omega)
        have hc := hlc k hlt
        have hs := HSUM.out k hk
        have hsn : (ls.take (k + 1)).sum = (ls.take k).sum + ls[k] := by rw [List.take_succ_eq_append_getElem hlt, List.sum_append]; simp
        have hsb := HSUM.out (k + 1) (by omega)
        rw [hsn] at hsb
        generalize (ls.take k).sum = s at *
        generalize ls[k] = z at hc hsn hsb
        have HSN := Lib.hid hsn
        clear hlc hsn
        go_wp2
        go_round
        case rel => exact ⟨k + 1, by omega, by go_num, by rw [HSN.out]⟩
        case measure => simp [intOf]; omega
      · obtain rfl : k = ls.length := by omega
        have hs := HSUM.out _ (Nat.le_refl _)
        generalize (ls.take ls.length).sum = len at *
        have hy0c := (hqw2.cell (p := ⟨yb, yo + 0, none⟩) hyb2).trans (HYC.out 0 hy0)
        have hy0b := HYB.out ys[0] (List.getElem_mem hy0)
        generalize ys[0] = y0 at hy0c hy0b
        simp only [Nat.add_zero] at hy0c
        have hap1 : IntKind.i64.wrap (ap + 1) = ap + 1 := IntWalk.i64_in _ (by omega)
        go_wp2
        go_quiet (fail)
        go_wp2
        have hl0 : len ≤ 4600 := by omega
        have hrem : 0 ≤ y0 % (ap + 1) ∧ y0 % (ap + 1) ≤ ap := ⟨Int.emod_nonneg _ (by omega), by have := Int.emod_lt_of_pos y0 (show 0 < ap + 1 by omega); omega⟩
        generalize y0 % (ap + 1) = x0 at *
        obtain ⟨wo, hwo⟩ : ∃ wo : World, wo = w2.drewN nq := ⟨_, rfl⟩
        have hw3 : Below (w.heap.size + 1) (w.alloc (.cells #[.slice Ap ps.length cp, .slice Al ls.length cl, I own, I wt, I ap, I pe] 24)) wo := by rw [hwo]; exact below_drewN hw2 _
        rw [← hwo]
        clear hwo b1 b2 b3 b4 b5 b6 hqw2 hzw2 hw2 a1 a2 a3 a4 a5 a6 hw1 hqw1 hzw1 hap1 hy0c
        go_loopw [8, 9] (fun s8 s9 wq => ∃ (x : Int) (pre : List Int), 0 ≤ x ∧ x ≤ 6000 ∧ s9 = I x ∧ (pre.length : Int) ≤ pe ∧ Below (w.heap.size + 1) (w.alloc (.cells #[.slice Ap ps.length cp, .slice Al ls.length cl, I own, I wt, I ap, I pe] 24)) wq ∧ Hid (wq.ownsRow (w.heap.size + 1) 3 1 s8 pre.length (pre.map I)) ∧ Hid (Gaps ap pre) ∧ Hid (∀ p ∈ pre, 0 ≤ p ∧ p ≤ 10000 ∧ p + ap ≤ x)) (fun _ s9 _ => (6000 - intOf s9).toNat)
        case atStart => exact ⟨x0, [], by omega, by omega, rfl, by simp; omega, hw3, Lib.hid (World.ownsRow_nil _ _ _ _), Lib.hid List.Pairwise.nil, Lib.hid (by simp)⟩
        case round =>
          obtain ⟨x, pre, hx0, hx1, rfl, hpre, hBq, hown, hgap, hpl⟩ := hrel
          obtain ⟨⟨c1, c2, c3, c4, c5, c6⟩, hqq, hzq⟩ := HCE.out _ hBq
          by_cases hgo : x ≤ len ∧ (pre.length : Int) < pe
          · obtain ⟨hxl, hpn⟩ := hgo
            have hkk : (pre.length + 1) % ys.length < ys.length := Nat.mod_lt _ hy0
            have hc0 := HYC.out _ hkk
            have hy1 := HYB.out _ (List.getElem_mem hkk)
            have hmod : 0 ≤ ((pre.length : Int) + 1) % (ys.length : Int) ∧ ((pre.length : Int) + 1) % (ys.length : Int) < (ys.length : Int) := ⟨Int.emod_nonneg _ (by omega), Int.emod_lt_of_pos _ hyI2⟩
            generalize ys[(pre.length + 1) % ys.length] = y1 at hc0 hy1
            have hr4 : 0 ≤ y1 % 4 ∧ y1 % 4 ≤ 3 := by omega
            have HMOD := Lib.hid hmod
            have HC0 := Lib.hid hc0
            obtain ⟨A, c, rfl⟩ : ∃ A c, u8 = .slice A pre.length c := by
              rcases own_form hown.out with ⟨h1, h2⟩ | ⟨g, cap, h1, _⟩
              · exact ⟨none, 0, by rw [h1, h2]⟩
              · exact ⟨_, _, h1⟩
            have HMOD := Lib.hid hmod
            have HC0 := Lib.hid hc0
            have HOWN2 := Lib.hid ((hown.out).alloc (.cells #[I x] 3))
            have HBM2 : Hid (Below (w.heap.size + 1) ((w.alloc (.cells #[.slice Ap ps.length cp, .slice Al ls.length cl, I own, I wt, I ap, I pe] 24))) (wr.alloc (.cells #[I x] 3))) := Lib.hid (hBq.alloc hzq _)
            have HNEW := Lib.hid (new1 wr (I x) 3)
            have hxlN : decide (x ≤ len) = true := by simpa using hxl
            have hpnN : decide ((pre.length : Int) < pe) = true := by simpa using hpn
            have hpl100 : pre.length ≤ 100 := by omega
            clear hmod hc0
            go_wp2_with (at_builtin; refine wpList_append_own _ rfl _ _ 22 rfl (w.heap.size + 1) 3 i0 (.int .i64 0) 1 8 HU.out HI0.out HI1.out HI2.out HI3.out rfl (by decide) _ _ _ rfl HOWN2.out ⟨wr.heap.size, 0, none⟩ 1 1 [I x] rfl rfl HNEW.out (fun u hu => by simp at hu; subst hu; rfl) (by simp [maxLen]; omega) (by omega) (by simp; omega) ?_; intro v' w3 hown3 hgrow hnil; have hB3 := HBM2.out.grown hgrow (by simp; omega) (fun k hk => (HOWN2.out.lt k hk).1); have HB3 := Lib.hid hB3; have HOWN3 : Hid (w3.ownsRow (w.heap.size + 1) 3 1 v' (pre.length + 1) ((pre ++ [x]).map I)) := Lib.hid (by simpa using hown3); obtain ⟨g, cap, rfl⟩ : ∃ g cap, v' = .slice (some ⟨g, 0, none⟩) (pre.length + 1) cap := (by rcases own_form HOWN3.out with ⟨_, h2⟩ | ⟨g, cap, h1, _⟩; (exfalso; omega); exact ⟨g, cap, h1⟩); obtain ⟨⟨d1, d2, d3, d4, d5, d6⟩, hq3, hz3⟩ := HCE.out w3 hB3; have hmod := HMOD.out; have hc0 := (hq3.cell (p := ⟨yb, yo + (pre.length + 1) % ys.length, none⟩) hyb2).trans HC0.out; clear hown3 hgrow hnil hB3)
            go_roundw
            case rel =>
              refine ⟨x + y1 % 4 + ap, pre ++ [x], by omega, by omega, by go_num, by simp; omega, HB3.out, Lib.hid (by simpa using HOWN3.out), Lib.hid ?_, Lib.hid ?_⟩
              · exact List.pairwise_append.2 ⟨hgap.out, by simp, fun a ha b hb => by simp at hb; subst hb; exact (hpl.out a ha).2.2⟩
              · intro p hp
                rcases List.mem_append.1 hp with hp | hp
                · have := hpl.out p hp; omega
                · simp at hp; omega
            case measure => simp [intOf]; omega
          · obtain ⟨A, c, rfl⟩ : ∃ A c, u8 = .slice A pre.length c := by
              rcases own_form hown.out with ⟨h1, h2⟩ | ⟨g, cap, h1, _⟩
              · exact ⟨none, 0, by rw [h1, h2]⟩
              · exact ⟨_, _, h1⟩
            have hI : Ints wr wr.heap.size A pre := ints_of_own hown.out rfl
            have HI := Lib.hid hI
            clear hI hown
            obtain hx | ⟨hx, hn⟩ : ¬ x ≤ len ∨ (x ≤ len ∧ ¬ (pre.length : Int) < pe) := by omega
            all_goals
              go_wp2
              obtain ⟨wb, hwb⟩ : ∃ wb : World, wb = wr := ⟨_, rfl⟩
              have hbr : Below wb.heap.size wb wr := by rw [hwb]; exact Below.refl _ _
              have HBB : Hid (Below (w.heap.size + 1) ((w.alloc (.cells #[.slice Ap ps.length cp, .slice Al ls.length cl, I own, I wt, I ap, I pe] 24))) wb) := by rw [hwb]; exact Lib.hid hBq
              have HI2 : Hid (Ints wb wb.heap.size A pre) := by rw [hwb]; exact HI
              clear hwb
              go_loopw [79] (fun s79 wq => ∃ j : Nat, j ≤ ps.length ∧ s79 = I j ∧ Below wb.heap.size wb wq) (fun s79 _ => ps.length - (intOf s79).toNat)
              case atStart => exact ⟨0, by omega, rfl, hbr⟩
              case round =>
                obtain ⟨j, hj, rfl, hBj⟩ := hrel
                have hBW := HBB.out.trans (hBj.mono (by have := (HCE.out _ HBB.out).2.2; omega))
                obtain ⟨⟨e1, e2, e3, e4, e5, e6⟩, hqj, hzj⟩ := HCE.out _ hBW
                by_cases hlt2 : j < ps.length
                · obtain ⟨p1, p2, C, hp1, hp2, hC, hL, hM, hS⟩ := HR.out j hlt2
                  obtain ⟨b, hb, hbb, hS⟩ := hS pre hgap.out hpre (fun p hp => ⟨(hpl.out p hp).1, (hpl.out p hp).2.1⟩)
                  have m1 := mul_bd hb.1 hb.2 (show 0 ≤ p2 by omega) hp2.2
                  have m2 := mul_bd hp1.1 hp1.2 (show 0 ≤ C by omega) hC.2
                  have hless := fun W => less_any b C p1 p2 W (by omega) (by omega)
                  rw [show decide (b * p2 ≤ p1 * C) = true from by simpa using hbb] at hless
                  have HLL := Lib.hid hL; have HM := Lib.hid hM; have HS := Lib.hid hS; have HLESS := Lib.hid hless
                  have hp2n : decide (p2 < 1) = false := by simp; omega
                  clear hL hM hS hless m1 m2 hbb
                  go_wp2_with (go_at_call 14; refine (HLL.out wr hqj).mono ?_; rintro e w5 ⟨rfl, hB5⟩)
                  have hz5 := hB5.size
                  have hnew : ∀ W, Below (w5.heap.size + 1) (w5.alloc (.cells #[I p1, I p2] 33)) W → (W.cell? ⟨w5.heap.size, 0, none⟩ = some (I p1) ∧ W.cell? ⟨w5.heap.size, 1, none⟩ = some (I p2)) ∧ Below wr.heap.size wr W := fun W hB => by
                    refine ⟨⟨?_, ?_⟩, (hB5.alloc (by omega) _).trans (hB.mono (by omega))⟩
                    iterate 2 (rw [hB.cell (p := ⟨w5.heap.size, _, none⟩) (by simp)]; simp [go_sem])
                  have HNEW := Lib.hid hnew
                  have HBJ := Lib.hid hBj
                  have HBW := Lib.hid hBW
                  clear hnew hB5 hBj hBW e1 e2 e3 e4 e5 e6
                  refine (wpIn_wide (n := 9)).1 ?_
                  refine wpIn_region_valsG [some 88, some 89, some 90, some 91, some 92, some 93, some 94, some 95, some 96, some 97, some 98, some 99, some 100, some 101, some 102, some 103, some 104, some 105, some 106, some 107]
                    (nthV [I 0, .bool false, .bool false, .pointer (some ⟨w5.heap.size, 1, none⟩), I p2, .bool false, .bool false, .bool false, .agg #[.slice Ap ps.length cp, .slice Al ls.length cl, I own, I wt, I ap, I pe], I j, .slice A pre.length c, I b, .agg #[.slice Ap ps.length cp, .slice Al ls.length cl, I own, I wt, I ap, I pe], I j, I C, .agg #[I b, I C], .agg #[I p1, I p2], .bool true, .bool false, .bool false])
                    (fun W => Below (w5.heap.size + 1) (w5.alloc (.cells #[I p1, I p2] 33)) W) rfl (by kernel_rfl) (by kernel_rfl) (by kernel_rfl) (fun _ d _ _ _ h => by cases d <;> exact h) (by simpa using (Below.refl _ (w5.alloc (.cells #[I p1, I p2] 33))).drew) ?_ ?_
                  · refine ⟨?_, ?_, ?_, ?_, ?_, ?_, ?_, ?_, ?_, ?_, ?_, ?_, ?_, ?_, ?_, ?_, ?_, ?_, ?_, ?_, trivial⟩
                    all_goals ((intro x W hC K hK; have HK := Lib.hid hK; have HC := Lib.hid hC; clear hC hK; simp only [putD, nthV, Act.put, List.setIfInBounds_toArray, List.set_cons_succ, List.set_cons_zero, Nat.zero_add, Nat.reduceAdd, Nat.reduceEqDiff, reduceIte , Nat.succ_ne_zero, Nat.zero_ne_one, Nat.one_ne_zero] at HK ⊢); obtain ⟨⟨n0, n1⟩, hBr⟩ := HNEW.out _ HC.out; obtain ⟨⟨e1, e2, e3, e4, e5, e6⟩, hqW, hzW⟩ := HCE.out _ (HBW.out.trans (hBr.mono hzj)); refine ⟨rfl, ?_⟩)
                    all_goals first
                      | (refine op_li rfl ?_; go_simp; exact HK.out _ HC.out)
                      | (gi_wp2_with (refine And.intro trivial ?_; gi_at_call 16; refine callsIn_wide.2 ((HS.out _ _ _ hqW ((HI2.out.below (HBJ.out.trans (hBr.mono HBJ.out.size))).more (HBJ.out.trans (hBr.mono HBJ.out.size)).size)).mono ?_); rintro e w6 ⟨rfl, hB6⟩)
                         exact HK.out _ (HC.out.trans (hB6.mono (by have := HC.out.size; simp at this; omega))))
                      | (gi_wp2_with (refine And.intro trivial ?_; gi_at_call 17; refine callsIn_wide.2 ((HM.out _ hqW).mono ?_); rintro e w6 ⟨rfl, hB6⟩)
                         exact HK.out _ (HC.out.trans (hB6.mono (by have := HC.out.size; simp at this; omega))))
                      | (gi_wp2_with (refine And.intro trivial ?_; gi_at_call 15; refine callsIn_wide.2 ((HLESS.out _).mono ?_); rintro e w6 ⟨rfl, hB6⟩)
                         exact HK.out _ (HC.out.trans (hB6.mono (by have := HC.out.size; simp at this; omega))))
                  · (intro W hC; have HC := Lib.hid hC; clear hC; simp only [putD, nthV, Act.put, List.setIfInBounds_toArray, List.set_cons_succ, List.set_cons_zero, Nat.zero_add, Nat.reduceAdd])
                    go_wp2
                    go_roundw
                    case rel => exact ⟨j + 1, by omega, by go_num, HBJ.out.trans ((HNEW.out _ HC.out).2.mono HBJ.out.size)⟩
                    case measure => simp [intOf]; omega
                · obtain rfl : j = ps.length := by omega
                  go_wp2_with (go_at_call 13; refine (alive_any _).mono ?_; rintro e w8 ⟨rfl, hB8⟩)
                  go_ret
                  exact ⟨rfl, hqj.trans (hB8.mono (by omega))⟩
  · go_ret
    exact ⟨rfl, hqw1.trans (hB8.mono hqw1.size)⟩

set_option maxRecDepth 100000 in
set_option maxHeartbeats 4000000 in
theorem crowds_any (Ap Al : Option Addr) (cp cl : Nat) (d : Deck) (B : Option Addr) (cb : Nat) (ys : List Int) (w : World) (hp : Ints w w.heap.size Ap d.posts) (hl : Ints w w.heap.size Al d.lengths)
    (hpl : d.posts.length ≤ 9223372036854775807) (hbl : d.lengths.length ≤ 9223372036854775807) (hy : Bytes w w.heap.size B ys) (hyl : ys.length ≤ 9223372036854775807) :
    Calls Try.prog 3 #[d.val Ap Al cp cl, .slice B ys.length cb] w fun e w' => e = .returned (.bool true) ∧ Below w.heap.size w w' := by
  by_cases hok : d.ok 400 ∧ 0 < ys.length
  · exact crowds_yes Ap Al cp cl d B cb ys w hp hl hok.1 hy hyl hok.2
  have hG : ∀ W, Below w.heap.size w W → Calls Try.prog 11 #[.agg #[I 0, I 0, .slice none 0 0], .slice none 0 0, d.val Ap Al cp cl] W (RetSome W) := fun W hB =>
    great_any none 0 ⟨0, 0, []⟩ none 0 0 Ap Al cp cl d W ((hl.below hB).more hB.size) hbl
  have hD : 0 < ys.length → ∀ W, Below w.heap.size w W → Calls Try.prog 12 #[d.val Ap Al cp cl, I 400] W fun e w' => e = .returned (.bool false) ∧ Below W.heap.size W w' := fun h0 W hB =>
    (refDeck_any _ _ cp cl d 400 W ((hp.below hB).more hB.size) ((hl.below hB).more hB.size) (by omega) (by omega) (by omega)).mono fun e w' ⟨b, h1, h2, h3⟩ => ⟨by
      have : b = false := by cases b with | false => rfl | true => exact absurd ⟨h2.1 rfl, h0⟩ hok
      rw [h1, this], h3⟩
  clear hok hp hl
  obtain ⟨ps, ls, own, wt, ap, pe⟩ := d
  simp only [Deck.val] at *
  have HG := Lib.hid hG; have HD := Lib.hid hD
  clear hG hD hy
  have hce : ∀ W, Below (w.heap.size + 1) (w.alloc (.cells #[.slice Ap ps.length cp, .slice Al ls.length cl, I own, I wt, I ap, I pe] 24)) W →
      (W.cell? ⟨w.heap.size, 0, none⟩ = some (.slice Ap ps.length cp) ∧ W.cell? ⟨w.heap.size, 1, none⟩ = some (.slice Al ls.length cl) ∧ W.cell? ⟨w.heap.size, 2, none⟩ = some (I own) ∧ W.cell? ⟨w.heap.size, 3, none⟩ = some (I wt) ∧ W.cell? ⟨w.heap.size, 4, none⟩ = some (I ap) ∧ W.cell? ⟨w.heap.size, 5, none⟩ = some (I pe)) ∧ Below w.heap.size w W ∧ w.heap.size + 1 ≤ W.heap.size := fun W hB => by
    refine ⟨⟨?_, ?_, ?_, ?_, ?_, ?_⟩, ((Below.refl _ w).alloc (Nat.le_refl _) _).trans (hB.mono (by omega)), by have := hB.size; simpa using this⟩
    iterate 6 (rw [hB.cell (p := ⟨w.heap.size, _, none⟩) (by simp)]; simp [go_sem])
  have HCE := Lib.hid hce
  clear hce
  go_enter Try.func3, Try.ntmps3
  by_cases hy0 : 0 < ys.length
  · have hyI : ((ys.length : Int) == 0) = false := by rw [beq_eq_false_iff_ne]; omega
    go_wp2_with (first
      | (go_at_call 11; refine (HG.out _ (by (repeat' (first | assumption | exact Below.refl _ _ | refine Below.drew ?_ | refine below_drewN ?_ _ | refine Below.setCell ?_ (by first | omega | (simp; done) | (simp; omega)) _ | refine Below.alloc ?_ (by first | omega | (simp; done) | (simp; omega)) _ | refine Below.trans ?_ (Below.mono (by assumption) (by first | omega | (simp; done) | (simp; omega))))))).mono ?_; rintro e w1 ⟨_ | _, rfl, hB1⟩ <;> (have hw1 : Below (w.heap.size + 1) (w.alloc (.cells #[.slice Ap ps.length cp, .slice Al ls.length cl, I own, I wt, I ap, I pe] 24)) w1 := (by simpa using hB1); obtain ⟨⟨a1, a2, a3, a4, a5, a6⟩, hqw1, hzw1⟩ := HCE.out w1 hw1; clear hB1))
      | (go_at_call 12; refine (HD.out hy0 _ hqw1).mono ?_; rintro e w2 ⟨rfl, hB⟩; have hq2 := hqw1.trans (hB.mono hqw1.size))
      | (go_at_call 13; refine (alive_any _).mono ?_; rintro e w8 ⟨rfl, hB8⟩))
    · go_ret
      exact ⟨rfl, hq2.trans (hB8.mono hq2.size)⟩
    · go_ret
      exact ⟨rfl, hqw1.trans (hB8.mono hqw1.size)⟩
  · have hyn : ys.length = 0 := by omega
    rw [hyn]
    go_wp2_with (first
      | (go_at_call 11; refine (HG.out _ (by (repeat' (first | assumption | exact Below.refl _ _ | refine Below.drew ?_ | refine below_drewN ?_ _ | refine Below.setCell ?_ (by first | omega | (simp; done) | (simp; omega)) _ | refine Below.alloc ?_ (by first | omega | (simp; done) | (simp; omega)) _ | refine Below.trans ?_ (Below.mono (by assumption) (by first | omega | (simp; done) | (simp; omega))))))).mono ?_; rintro e w1 ⟨_ | _, rfl, hB1⟩ <;> (have hw1 : Below (w.heap.size + 1) (w.alloc (.cells #[.slice Ap ps.length cp, .slice Al ls.length cl, I own, I wt, I ap, I pe] 24)) w1 := (by simpa using hB1); obtain ⟨⟨a1, a2, a3, a4, a5, a6⟩, hqw1, hzw1⟩ := HCE.out w1 hw1; clear hB1))
      | (go_at_call 13; refine (alive_any _).mono ?_; rintro e w8 ⟨rfl, hB8⟩))
    all_goals
      go_ret
      exact ⟨rfl, hqw1.trans (hB8.mono hqw1.size)⟩
end Go.Proofs.Ytilmlgngnbokfaa
