/- GroundLess: the walk, where the deck bears. -/
import Derived.Test.YtilmlgngnbokfaaLc2
import Derived.Test.YtilmlgngnbokfaaPj
import Derived.Test.YtilmlgngnbokfaaAn
import Derived.Test.YtilmlgngnbokfaaEv
import Derived.Test.YtilmlgngnbokfaaG1
import Derived.Test.YtilmlgngnbokfaaBx
import Derived.Test.YtilmlgngnbokfaaNj
import Derived.Test.YtilmlgngnbokfaaFl3
namespace Go.Proofs.Ytilmlgngnbokfaa
set_option linter.unusedVariables false
set_option linter.unusedSimpArgs false
open Go Go.RowKit

set_option maxRecDepth 100000 in
set_option maxHeartbeats 80000000 in
theorem less_yes (A : Option Addr) (c : Nat) (g : Grd) (B : Option Addr) (cb : Nat) (l : List (Int × Int × Int)) (Ap Al : Option Addr) (cp cl : Nat) (d : Deck) (y s1 s2 s3 : Int) (w : World) (ha : Args w A g B l Ap Al d)
    (hy : 0 ≤ y ∧ y ≤ 255) (hok : AllOk g l d) (hw : wrongI g.radar l < 0) (hb : bearsB d (crustL g.radar l) g.firm = true) :
    Calls Try.prog 8 #[g.val A c, .slice B l.length cb, d.val Ap Al cp cl, .int .u8 y, .agg #[I s1, I s2, I s3]] w fun e w' => e = .returned (.bool true) ∧ Below w.heap.size w w' := by
  have hG : ∀ W, Below w.heap.size w W → Calls Try.prog 11 #[g.val A c, .slice B l.length cb, d.val Ap Al cp cl] W (RetSome W) := fun W hB =>
    great_any A c g B cb l.length Ap Al cp cl d W (ha.below hB).hb ha.hbl
  have hB0 := fun W (hB : Below w.heap.size w W) => (Breaks_any A c g B cb l Ap Al cp cl d W (ha.below hB)).mono (R' := fun e w' => e = .returned (.tuple #[I 0, I 4]) ∧ Below W.heap.size W w') fun e w' ⟨h1, h2⟩ => ⟨brk_none h1 hok hw hb, h2⟩
  have hMo := fun W (hB : Below w.heap.size w W) => (Most_any A c g B cb l Ap Al cp cl d W (ha.below hB)).mono (R' := fun e w' => (∃ n : Int, e = .returned (.tuple #[I n, I 0]) ∧ d.persons ≤ n ∧ MoF g l d n) ∧ Below W.heap.size W w') fun e w' ⟨h1, h2⟩ => ⟨most_yes h1 hok hw hb, h2⟩
  have hAp := fun W (hB : Below w.heap.size w W) => (Apart_any A c g B cb l Ap Al cp cl d W (ha.below hB)).mono (R' := fun e w' => (∃ n : Int, e = .returned (.tuple #[I n, I 0]) ∧ n ≤ d.apart ∧ ApF g l d n) ∧ Below W.heap.size W w') fun e w' ⟨h1, h2⟩ => ⟨apart_yes h1 hok hw hb, h2⟩
  have hGr := fun W (hB : Below w.heap.size w W) => (refGround_any A c g W (ha.below hB).hr ha.hrl).mono (R' := fun e w' => e = .returned (.bool true) ∧ Below W.heap.size W w') fun e w' ⟨b, h1, h2, h3⟩ => ⟨by rw [h1, show b = true from h2.2 hok.1.1], h3⟩
  have hrad := hok.1.1.2.2.1
  have hDe := fun W (hB : Below w.heap.size w W) => (refDeck_any Ap Al cp cl d g.radar.length W (ha.below hB).hp (ha.below hB).hb ha.hpl ha.hbl (by omega)).mono (R' := fun e w' => e = .returned (.bool true) ∧ Below W.heap.size W w') fun e w' ⟨b, h1, h2, h3⟩ => ⟨by rw [h1, show b = true from h2.2 hok.2], h3⟩
  obtain ⟨kq, hK⟩ : ∃ kq : Int, kq = y % 5 := ⟨_, rfl⟩
  have hK4 : 0 ≤ kq ∧ kq ≤ 4 := by omega
  have hLd := fun W (hB : Below w.heap.size w W) (i : Nat) (hi : i < d.posts.length) => (Load_any Ap Al cp cl d (i : Nat) W (ha.below hB).hp (ha.below hB).hb ha.hpl ha.hbl).mono (R' := fun e w' => e = .returned (.tuple #[.agg #[I (pres d i).1, I (pres d i).2], I 0]) ∧ Below W.heap.size W w') fun e w' ⟨h1, h2⟩ => ⟨by rw [h1, load_ok hok.2 (by omega) i hi]; rfl, h2⟩
  have hLk := fun W (hB : Below w.heap.size w W) (k i : Nat) (hi : i < d.posts.length) => (Load_any Ap Al cp cl (dk d kq k) (i : Nat) W (by rw [(dk_same d kq k).1]; exact (ha.below hB).hp) (by rw [(dk_same d kq k).2]; exact (ha.below hB).hb) (by rw [(dk_same d kq k).1]; exact ha.hpl) (by rw [(dk_same d kq k).2]; exact ha.hbl)).mono (R' := fun e w' => e = .returned (.tuple #[.agg #[I (pres (dk d kq k) i).1, I (pres (dk d kq k) i).2], I 0]) ∧ Below W.heap.size W w') fun e w' ⟨h1, h2⟩ => ⟨by rw [h1, load_ok (dk_ok hok.2 hK4 k) (by omega) i (by rw [(dk_same d kq k).1]; exact hi)]; rfl, h2⟩
  have hLs := fun (k i : Nat) (hi : i < d.posts.length) (W : World) => less_ok hok.2 hK4 k i hi W
  have hden := fun (i : Nat) (hi : i < d.posts.length) => pres_den hok.2 i hi
  have hdenk := fun (k i : Nat) (hi : i < d.posts.length) => pres_den (dk_ok hok.2 hK4 k) i (by rw [(dk_same d kq k).1]; exact hi)
  have hfirm := hok.1.1.2.1
  have hHd := fun W (hB : Below w.heap.size w W) => (Breaks_any A c (g.fm (min 100 (g.firm + kq))) B cb l Ap Al cp cl d W ⟨(ha.below hB).hr, (ha.below hB).hl, ha.hrl, ha.hll, (ha.below hB).hp, (ha.below hB).hb, ha.hpl, ha.hbl⟩).mono (R' := fun e w' => (e = .returned (.tuple #[I 0, I 4])) ∧ Below W.heap.size W w') fun e w' ⟨h1, h2⟩ => ⟨brk_none h1 (all_firm hok (by omega)) hw (bears_firm hok.2 (crust_lo g.radar hok.1.1.2.2.2.2 l (fun k h => (hok.1.2.2 k h).2)) (by omega) (show g.firm ≤ min 100 (g.firm + kq) by omega) hb), h2⟩
  have hMr := fun W (hB : Below w.heap.size w W) A' c' (h : Threes W W.heap.size A' (l ++ [(s1, s2, s3)])) => (Breaks_any A c g A' c' (l ++ [(s1, s2, s3)]) Ap Al cp cl d W ⟨(ha.below hB).hr, h, ha.hrl, by have := hok.1.2.1; simp; omega, (ha.below hB).hp, (ha.below hB).hb, ha.hpl, ha.hbl⟩).mono (R' := fun e w' => (∃ a b, e = .returned (.tuple #[I a, I b]) ∧ b ≠ 0) ∧ Below W.heap.size W w') fun e w' ⟨h1, h2⟩ => ⟨brk_more h1 hok hb, h2⟩
  have hIp := fun bg bl W (hB : Below w.heap.size w W) h1 h2 h3 h4 h5 (n : Int) (hn : 0 ≤ n ∧ n ≤ 100) => is_any bg bl A c g B cb l Ap Al cp cl (d.pe n) W ⟨(ha.below hB).hr, (ha.below hB).hl, ha.hrl, ha.hll, (ha.below hB).hp, (ha.below hB).hb, ha.hpl, ha.hbl⟩ h1 h2 h3 h4 h5 ⟨hok.1, Deck.pe_ok hok.2 hn⟩ hw
  have hIa := fun bg bl W (hB : Below w.heap.size w W) h1 h2 h3 h4 h5 (n : Int) (hn : 1 ≤ n ∧ n ≤ 400) => is_any bg bl A c g B cb l Ap Al cp cl (d.ap n) W ⟨(ha.below hB).hr, (ha.below hB).hl, ha.hrl, ha.hll, (ha.below hB).hp, (ha.below hB).hb, ha.hpl, ha.hbl⟩ h1 h2 h3 h4 h5 ⟨hok.1, Deck.ap_ok hok.2 hn⟩ hw
  have hll := hok.1.2.1
  have hpl := hok.2.2.1
  have hpl2 := hok.2.1
  have hTl := ha.hl
  have hdk := hok.2.2.2.2.2.2
  have hbi := trivial
  simp only [List.length_append, List.length_cons, List.length_nil, MoF, ApF] at *
  obtain ⟨hIo, hIw, hIa2, hIp2⟩ := hdk
  generalize brkI d (crustL g.radar l) g.firm = bi at *
  generalize hbsp : (fun n => bearsB (d.pe n) (crustL g.radar l) g.firm) = bsp at *
  generalize hbsa : (fun n => bearsB (d.ap n) (crustL g.radar l) g.firm) = bsa at *
  have hbsp' : ∀ n, bearsB (d.pe n) (crustL g.radar l) g.firm = bsp n := fun n => congrFun hbsp n
  have hbsa' : ∀ n, bearsB (d.ap n) (crustL g.radar l) g.firm = bsa n := fun n => congrFun hbsa n
  simp only [hbsp', hbsa'] at *
  clear hbsp hbsa hbsp' hbsa' hok hw hb ha
  generalize hpr1 : (fun i => (pres d i).1) = p1 at *
  generalize hpr2 : (fun i => (pres d i).2) = p2 at *
  generalize hqr1 : (fun k i => (pres (dk d kq k) i).1) = q1 at *
  generalize hqr2 : (fun k i => (pres (dk d kq k) i).2) = q2 at *
  have e1 : ∀ i, (pres d i).1 = p1 i := fun i => congrFun hpr1 i
  have e2 : ∀ i, (pres d i).2 = p2 i := fun i => congrFun hpr2 i
  have e3 : ∀ k i, (pres (dk d kq k) i).1 = q1 k i := fun k i => congrFun (congrFun hqr1 k) i
  have e4 : ∀ k i, (pres (dk d kq k) i).2 = q2 k i := fun k i => congrFun (congrFun hqr2 k) i
  simp only [e1, e2, e3, e4] at *
  clear e1 e2 e3 e4 hpr1 hpr2 hqr1 hqr2
  have hlk : ∀ k i, i < d.posts.length → ∀ W, Below w.heap.size w W → Calls Try.prog 14 #[(dk d kq k).val Ap Al cp cl, I i] W fun e w' => e = .returned (.tuple #[.agg #[I (q1 k i), I (q2 k i)], I 0]) ∧ Below W.heap.size W w' := fun k i hi W hB => hLk W hB k i hi
  clear hLk
  obtain ⟨wd, fm, ra⟩ := g
  obtain ⟨ps, ls, own, wt, ap, pe⟩ := d
  simp only [Grd.val, Deck.val, Deck.pe, Deck.ap, Deck.wt, Deck.ow, Grd.fm] at *
  obtain ⟨hfirm1, hfirm2⟩ := hfirm
  obtain ⟨hIo1, hIo2⟩ := hIo
  obtain ⟨hIw1, hIw2⟩ := hIw
  obtain ⟨hIa1, hIa3⟩ := hIa2
  obtain ⟨hIp1, hIp3⟩ := hIp2
  obtain ⟨hrad1, hrad2⟩ := hrad
  obtain ⟨hK0, hK4⟩ := hK4
  obtain ⟨hy0, hy1⟩ := hy
  have HTL := Lib.hid hTl
  clear hTl
  obtain ⟨i0, hi0, hi1, hi2, hi3⟩ := info_parts info55b
  have hu45 : Try.prog.underlying 45 = some (.slice 55) := Try.underlying45
  have HU := Lib.hid hu45; have HJ0 := Lib.hid hi0; have HJ1 := Lib.hid hi1; have HJ2 := Lib.hid hi2; have HJ3 := Lib.hid hi3
  clear hu45 hi0 hi1 hi2 hi3
  have HG := Lib.hid hG; have HB0 := Lib.hid hB0; have HMO := Lib.hid hMo; have HAP := Lib.hid hAp; have HGR := Lib.hid hGr; have HDE := Lib.hid hDe; have HLD := Lib.hid hLd; have HLK := Lib.hid hlk; have HLS := Lib.hid hLs; have HDEN := Lib.hid hden; have HDENK := Lib.hid hdenk; have HHD := Lib.hid hHd; have HMR := Lib.hid hMr; have HIP := Lib.hid hIp; have HIA := Lib.hid hIa; have HK := Lib.hid hK
  clear hG hB0 hMo hAp hGr hDe hLd hlk hLs hden hdenk hHd hMr hIp hIa hK
  have hce : ∀ W, Below (w.heap.size + 4) ((((w.alloc (.cells #[I wd, I fm, .slice A ra.length c] 29)).alloc (.cells #[.slice B l.length cb] 45)).alloc (.cells #[.slice Ap ps.length cp, .slice Al ls.length cl, I own, I wt, I ap, I pe] 24)).alloc (.cells #[I s1, I s2, I s3] 55)) W →
      (W.cell? ⟨w.heap.size, 0, none⟩ = some (I wd) ∧ W.cell? ⟨w.heap.size, 1, none⟩ = some (I fm) ∧ W.cell? ⟨w.heap.size, 2, none⟩ = some (.slice A ra.length c) ∧ W.cell? ⟨w.heap.size + 1, 0, none⟩ = some (.slice B l.length cb) ∧ W.cell? ⟨w.heap.size + 1 + 1, 0, none⟩ = some (.slice Ap ps.length cp) ∧ W.cell? ⟨w.heap.size + 1 + 1, 1, none⟩ = some (.slice Al ls.length cl) ∧ W.cell? ⟨w.heap.size + 1 + 1, 2, none⟩ = some (I own) ∧ W.cell? ⟨w.heap.size + 1 + 1, 3, none⟩ = some (I wt) ∧ W.cell? ⟨w.heap.size + 1 + 1, 4, none⟩ = some (I ap) ∧ W.cell? ⟨w.heap.size + 1 + 1, 5, none⟩ = some (I pe) ∧ W.cell? ⟨w.heap.size + 1 + 1 + 1, 0, none⟩ = some (I s1) ∧ W.cell? ⟨w.heap.size + 1 + 1 + 1, 1, none⟩ = some (I s2) ∧ W.cell? ⟨w.heap.size + 1 + 1 + 1, 2, none⟩ = some (I s3)) ∧ Below w.heap.size w W ∧ w.heap.size + 4 ≤ W.heap.size := fun W hB => by
    refine ⟨⟨?_, ?_, ?_, ?_, ?_, ?_, ?_, ?_, ?_, ?_, ?_, ?_, ?_⟩, (((((Below.refl _ w).alloc (Nat.le_refl _) _).alloc (by first | (simp; done) | (simp; omega)) _).alloc (by first | (simp; done) | (simp; omega)) _).alloc (by first | (simp; done) | (simp; omega)) _).trans (hB.mono (by omega)), by have := hB.size; simpa using this⟩
    iterate 3 (rw [hB.cell (p := ⟨w.heap.size, _, none⟩) (by simp)]; simp [go_sem])
    iterate 1 (rw [hB.cell (p := ⟨w.heap.size + 1, _, none⟩) (by simp)]; simp [go_sem])
    iterate 6 (rw [hB.cell (p := ⟨w.heap.size + 1 + 1, _, none⟩) (by simp)]; simp [go_sem])
    iterate 3 (rw [hB.cell (p := ⟨w.heap.size + 1 + 1 + 1, _, none⟩) (by simp)]; simp [go_sem])
  have HCE := Lib.hid hce
  clear hce
  have hps0 : ¬ ps = [] := by intro h; subst h; simp at hpl2
  have tok1 : True := trivial
  go_enter Try.func8, Try.ntmps8
  go_wp2_with (first
    | (go_at_call 11; refine (HG.out _ (by (repeat' (first | assumption | exact Below.refl _ _ | refine Below.drew ?_ | refine below_drewN ?_ _ | refine Below.setCell ?_ (by first | omega | (simp; done) | (simp; omega)) _ | refine Below.alloc ?_ (by first | omega | (simp; done) | (simp; omega)) _ | refine Below.trans ?_ (Below.mono (by assumption) (by first | omega | (simp; done) | (simp; omega))))))).mono ?_; rintro e w1 ⟨_ | _, rfl, hB1⟩ <;> (have hw1 : Below (w.heap.size + 4) ((((w.alloc (.cells #[I wd, I fm, .slice A ra.length c] 29)).alloc (.cells #[.slice B l.length cb] 45)).alloc (.cells #[.slice Ap ps.length cp, .slice Al ls.length cl, I own, I wt, I ap, I pe] 24)).alloc (.cells #[I s1, I s2, I s3] 55)) w1 := (by simpa using hB1); obtain ⟨⟨c11, c12, c13, c14, c15, c16, c17, c18, c19, c110, c111, c112, c113⟩, hqw1, hzw1⟩ := HCE.out w1 hw1; clear hB1))
    | (go_at_call 25; have _t := tok1; refine (HB0.out w1 hqw1).mono ?_; rintro e w2 ⟨rfl, hB2⟩; clear tok1; have hw2 := hw1.trans (hB2.mono hzw1); obtain ⟨⟨c21, c22, c23, c24, c25, c26, c27, c28, c29, c210, c211, c212, c213⟩, hqw2, hzw2⟩ := HCE.out w2 hw2)
    | (go_at_call 27; refine (HMO.out w2 hqw2).mono ?_; rintro e w3 ⟨⟨n, rfl, hn1, hn2, hn3, hn4, hn5⟩, hB3⟩ <;> (have hw3 := hw2.trans (hB3.mono hzw2); obtain ⟨⟨c31, c32, c33, c34, c35, c36, c37, c38, c39, c310, c311, c312, c313⟩, hqw3, hzw3⟩ := HCE.out w3 hw3))
    | (go_at_call 29; refine (HAP.out w3 hqw3).mono ?_; rintro e w4 ⟨⟨a, rfl, ha1, ha2, ha3, ha4, ha5⟩, hB4⟩ <;> (have hw4 := hw3.trans (hB4.mono hzw3); obtain ⟨⟨c41, c42, c43, c44, c45, c46, c47, c48, c49, c410, c411, c412, c413⟩, hqw4, hzw4⟩ := HCE.out w4 hw4))
    | (go_at_call 31; refine (HGR.out w4 hqw4).mono ?_; rintro e w5 ⟨rfl, hB5⟩; have hw5 := hw4.trans (hB5.mono hzw4); obtain ⟨⟨c51, c52, c53, c54, c55, c56, c57, c58, c59, c510, c511, c512, c513⟩, hqw5, hzw5⟩ := HCE.out w5 hw5)
    | (go_at_call 12; refine (HDE.out w5 hqw5).mono ?_; rintro e w6 ⟨rfl, hB6⟩; have hw6 := hw5.trans (hB6.mono hzw5); obtain ⟨⟨c61, c62, c63, c64, c65, c66, c67, c68, c69, c610, c611, c612, c613⟩, hqw6, hzw6⟩ := HCE.out w6 hw6)
    | (go_at_call 13; refine (alive_any _).mono ?_; rintro e w8 ⟨rfl, hB8⟩))
  rotate_right
  · go_ret
    exact ⟨rfl, hqw1.trans (hB8.mono hqw1.size)⟩
  generalize (((w.alloc (.cells #[I wd, I fm, .slice A ra.length c] 29)).alloc (.cells #[.slice B l.length cb] 45)).alloc (.cells #[.slice Ap ps.length cp, .slice Al ls.length cl, I own, I wt, I ap, I pe] 24)).alloc (.cells #[I s1, I s2, I s3] 55) = wa at *
  have DZ : ∃ Z : List Value, Z = [.slice none 0 0, .slice none 0 0, I 0, I 0, I 0, I 0] := ⟨_, rfl⟩
  obtain ⟨Z, hZ⟩ := DZ
  have HZ := Lib.hid hZ
  have HZ2 : Hid (Z.toArray = #[.slice none 0 0, .slice none 0 0, I 0, I 0, I 0, I 0]) := Lib.hid (by rw [hZ])
  clear hZ
  clear c11 c12 c13 c14 c15 c16 c17 c18 c19 c110 c111 c112 c113 c21 c22 c23 c24 c25 c26 c27 c28 c29 c210 c211 c212 c213 c31 c32 c33 c34 c35 c36 c37 c38 c39 c310 c311 c312 c313 c41 c42 c43 c44 c45 c46 c47 c48 c49 c410 c411 c412 c413 c51 c52 c53 c54 c55 c56 c57 c58 c59 c510 c511 c512 c513 c61 c62 c63 c64 c65 c66 c67 c68 c69 c610 c611 c612 c613
  go_cut [17, 18, 19, 20, 21] (fun s17 s18 s19 s20 s21 wx => s17 = I kq ∧ ∃ g1 g2 g3 g4 : Nat, s18 = .pointer (some ⟨g1, 0, none⟩) ∧ s19 = .pointer (some ⟨g2, 0, none⟩) ∧ s20 = .pointer (some ⟨g3, 0, none⟩) ∧ s21 = .pointer (some ⟨g4, 0, none⟩) ∧
    g1 ≠ g2 ∧ g1 ≠ g3 ∧ g1 ≠ g4 ∧ g2 ≠ g3 ∧ g2 ≠ g4 ∧ g3 ≠ g4 ∧ w6.heap.size ≤ g1 ∧ w6.heap.size ≤ g2 ∧ w6.heap.size ≤ g3 ∧ w6.heap.size ≤ g4 ∧ Below w6.heap.size w6 wx ∧
    Hid (Box wx g1 [.slice Ap ps.length cp, .slice Al ls.length cl, I own, I wt, I ap, I pe]) ∧ Hid (Box wx g2 [.slice Ap ps.length cp, .slice Al ls.length cl, I own, I wt, I ap, I pe]) ∧ Hid (Box wx g3 [.slice Ap ps.length cp, .slice Al ls.length cl, I own, I wt, I ap, I pe]) ∧ Hid (Box wx g4 [.slice Ap ps.length cp, .slice Al ls.length cl, I own, I wt, I ap, I pe]))
  case first =>
    as_aux_lemma =>
      refine (wpIn_wide (n := 9)).1 ?_
      refine wpIn_region_jointL [some 117, some 118, some 119, some 120, some 18, some 19, some 20, some 21, none, none, none, none]
        (Js 4 w6.heap.size w6 [.slice Ap ps.length cp, .slice Al ls.length cl, I own, I wt, I ap, I pe] Z) rfl (by kernel_rfl) (by kernel_rfl) (by kernel_rfl) (fun _ d _ _ _ h => by cases d <;> exact h) (Js.start w6 4 _ (Nat.le_refl _) _ _) ?_ ?_
      · refine ⟨?_, ?_, ?_, ?_, ?_, ?_, ?_, ?_, ?_, ?_, ?_, ?_, trivial⟩
        · (intro val l vo W hli hd hJ K hK; have HK := Lib.hid hK; have HD := Lib.hid hd; have HJ := Lib.hid hJ; have HLI := Lib.hid hli; clear hK hd hJ hli; simp only [putD, Act.put, List.setIfInBounds_toArray, List.set_cons_succ, List.set_cons_zero, Nat.zero_add, Nat.reduceAdd] at HK ⊢; refine ⟨rfl, ?_⟩)
          obtain ⟨⟨f1, f2, f3, f4, f5, f6, f7, f8, f9, f10, f11, f12, f13⟩, hqW, hzW⟩ := HCE.out W (hw6.trans (HJ.out.low.mono hzw6))
          gi_wp2
          exact HK.out _ _ (HJ.out.load 0 (by decide))
        · (intro val l vo W hli hd hJ K hK; have HK := Lib.hid hK; have HD := Lib.hid hd; have HJ := Lib.hid hJ; have HLI := Lib.hid hli; clear hK hd hJ hli; simp only [putD, Act.put, List.setIfInBounds_toArray, List.set_cons_succ, List.set_cons_zero, Nat.zero_add, Nat.reduceAdd] at HK ⊢; refine ⟨rfl, ?_⟩)
          obtain ⟨⟨f1, f2, f3, f4, f5, f6, f7, f8, f9, f10, f11, f12, f13⟩, hqW, hzW⟩ := HCE.out W (hw6.trans (HJ.out.low.mono hzw6))
          gi_wp2
          exact HK.out _ _ (HJ.out.load 1 (by decide))
        · (intro val l vo W hli hd hJ K hK; have HK := Lib.hid hK; have HD := Lib.hid hd; have HJ := Lib.hid hJ; have HLI := Lib.hid hli; clear hK hd hJ hli; simp only [putD, Act.put, List.setIfInBounds_toArray, List.set_cons_succ, List.set_cons_zero, Nat.zero_add, Nat.reduceAdd] at HK ⊢; refine ⟨rfl, ?_⟩)
          obtain ⟨⟨f1, f2, f3, f4, f5, f6, f7, f8, f9, f10, f11, f12, f13⟩, hqW, hzW⟩ := HCE.out W (hw6.trans (HJ.out.low.mono hzw6))
          gi_wp2
          exact HK.out _ _ (HJ.out.load 2 (by decide))
        · (intro val l vo W hli hd hJ K hK; have HK := Lib.hid hK; have HD := Lib.hid hd; have HJ := Lib.hid hJ; have HLI := Lib.hid hli; clear hK hd hJ hli; simp only [putD, Act.put, List.setIfInBounds_toArray, List.set_cons_succ, List.set_cons_zero, Nat.zero_add, Nat.reduceAdd] at HK ⊢; refine ⟨rfl, ?_⟩)
          obtain ⟨⟨f1, f2, f3, f4, f5, f6, f7, f8, f9, f10, f11, f12, f13⟩, hqW, hzW⟩ := HCE.out W (hw6.trans (HJ.out.low.mono hzw6))
          gi_wp2
          exact HK.out _ _ (HJ.out.load 3 (by decide))
        · (intro val l vo W hli hd hJ K hK; have HK := Lib.hid hK; have HD := Lib.hid hd; have HJ := Lib.hid hJ; have HLI := Lib.hid hli; clear hK hd hJ hli; simp only [putD, Act.put, List.setIfInBounds_toArray, List.set_cons_succ, List.set_cons_zero, Nat.zero_add, Nat.reduceAdd] at HK ⊢; refine ⟨rfl, ?_⟩)
          gi_wp2
          refine HK.out _ _ ?_
          rw [← HZ2.out]
          exact HJ.out.alloc 0 (by decide) HLI.out 24
        · (intro val l vo W hli hd hJ K hK; have HK := Lib.hid hK; have HD := Lib.hid hd; have HJ := Lib.hid hJ; have HLI := Lib.hid hli; clear hK hd hJ hli; simp only [putD, Act.put, List.setIfInBounds_toArray, List.set_cons_succ, List.set_cons_zero, Nat.zero_add, Nat.reduceAdd] at HK ⊢; refine ⟨rfl, ?_⟩)
          gi_wp2
          refine HK.out _ _ ?_
          rw [← HZ2.out]
          exact HJ.out.alloc 1 (by decide) HLI.out 24
        · (intro val l vo W hli hd hJ K hK; have HK := Lib.hid hK; have HD := Lib.hid hd; have HJ := Lib.hid hJ; have HLI := Lib.hid hli; clear hK hd hJ hli; simp only [putD, Act.put, List.setIfInBounds_toArray, List.set_cons_succ, List.set_cons_zero, Nat.zero_add, Nat.reduceAdd] at HK ⊢; refine ⟨rfl, ?_⟩)
          gi_wp2
          refine HK.out _ _ ?_
          rw [← HZ2.out]
          exact HJ.out.alloc 2 (by decide) HLI.out 24
        · (intro val l vo W hli hd hJ K hK; have HK := Lib.hid hK; have HD := Lib.hid hd; have HJ := Lib.hid hJ; have HLI := Lib.hid hli; clear hK hd hJ hli; simp only [putD, Act.put, List.setIfInBounds_toArray, List.set_cons_succ, List.set_cons_zero, Nat.zero_add, Nat.reduceAdd] at HK ⊢; refine ⟨rfl, ?_⟩)
          gi_wp2
          refine HK.out _ _ ?_
          rw [← HZ2.out]
          exact HJ.out.alloc 3 (by decide) HLI.out 24
        · (intro val l vo W hli hd hJ K hK; have HK := Lib.hid hK; have HD := Lib.hid hd; have HJ := Lib.hid hJ; have HLI := Lib.hid hli; clear hK hd hJ hli; simp only [putD, Act.put, List.setIfInBounds_toArray, List.set_cons_succ, List.set_cons_zero, Nat.zero_add, Nat.reduceAdd] at HK ⊢; refine ⟨rfl, ?_⟩)
          obtain ⟨hl1, hv1⟩ : l 4 = true ∧ val 4 = vo 4 := HD.out.1
          obtain ⟨hl2, hv2⟩ : l 0 = true ∧ val 0 = vo 0 := HD.out.2.1
          have hd2 := HJ.out.loads 0 (by decide) hl2
          obtain ⟨g, hg1, hg2, hg3⟩ := HJ.out.boxes 0 (by decide) hl1
          have hb : Box W g Z := by simpa [HLI.out] using hg3
          rw [HZ.out] at hb
          have e1 := hv1.trans hg1
          have e2 := hv2.trans hd2
          rw [e1, e2] at HK ⊢
          obtain ⟨x0, z0⟩ := hb.at_ 0 _ rfl
          obtain ⟨x1, z1⟩ := hb.at_ 1 _ rfl
          obtain ⟨x2, z2⟩ := hb.at_ 2 _ rfl
          obtain ⟨x3, z3⟩ := hb.at_ 3 _ rfl
          obtain ⟨x4, z4⟩ := hb.at_ 4 _ rfl
          obtain ⟨x5, z5⟩ := hb.at_ 5 _ rfl
          have hbD := (((((hb.set 0 (.slice Ap ps.length cp)).set 1 (.slice Al ls.length cl)).set 2 (I own)).set 3 (I wt)).set 4 (I ap)).set 5 (I pe)
          simp only [List.set_cons_zero, List.set_cons_succ] at hbD
          have HBD := Lib.hid hbD
          have HL1 := Lib.hid hl1
          have HG1 := Lib.hid hg1
          clear hbD hb hd2 hl2 hv2 hv1 e1 e2 hl1 hg1 hg3 HD
          gi_wp2
          exact HK.out undef _ (HJ.out.store 0 (by decide) HL1.out HG1.out undef (frm_set6 _ _ _ _ _ _ _ _) HBD.out)
        · (intro val l vo W hli hd hJ K hK; have HK := Lib.hid hK; have HD := Lib.hid hd; have HJ := Lib.hid hJ; have HLI := Lib.hid hli; clear hK hd hJ hli; simp only [putD, Act.put, List.setIfInBounds_toArray, List.set_cons_succ, List.set_cons_zero, Nat.zero_add, Nat.reduceAdd] at HK ⊢; refine ⟨rfl, ?_⟩)
          obtain ⟨hl1, hv1⟩ : l 5 = true ∧ val 5 = vo 5 := HD.out.1
          obtain ⟨hl2, hv2⟩ : l 1 = true ∧ val 1 = vo 1 := HD.out.2.1
          have hd2 := HJ.out.loads 1 (by decide) hl2
          obtain ⟨g, hg1, hg2, hg3⟩ := HJ.out.boxes 1 (by decide) hl1
          have hb : Box W g Z := by simpa [HLI.out] using hg3
          rw [HZ.out] at hb
          have e1 := hv1.trans hg1
          have e2 := hv2.trans hd2
          rw [e1, e2] at HK ⊢
          obtain ⟨x0, z0⟩ := hb.at_ 0 _ rfl
          obtain ⟨x1, z1⟩ := hb.at_ 1 _ rfl
          obtain ⟨x2, z2⟩ := hb.at_ 2 _ rfl
          obtain ⟨x3, z3⟩ := hb.at_ 3 _ rfl
          obtain ⟨x4, z4⟩ := hb.at_ 4 _ rfl
          obtain ⟨x5, z5⟩ := hb.at_ 5 _ rfl
          have hbD := (((((hb.set 0 (.slice Ap ps.length cp)).set 1 (.slice Al ls.length cl)).set 2 (I own)).set 3 (I wt)).set 4 (I ap)).set 5 (I pe)
          simp only [List.set_cons_zero, List.set_cons_succ] at hbD
          have HBD := Lib.hid hbD
          have HL1 := Lib.hid hl1
          have HG1 := Lib.hid hg1
          clear hbD hb hd2 hl2 hv2 hv1 e1 e2 hl1 hg1 hg3 HD
          gi_wp2
          exact HK.out undef _ (HJ.out.store 1 (by decide) HL1.out HG1.out undef (frm_set6 _ _ _ _ _ _ _ _) HBD.out)
        · (intro val l vo W hli hd hJ K hK; have HK := Lib.hid hK; have HD := Lib.hid hd; have HJ := Lib.hid hJ; have HLI := Lib.hid hli; clear hK hd hJ hli; simp only [putD, Act.put, List.setIfInBounds_toArray, List.set_cons_succ, List.set_cons_zero, Nat.zero_add, Nat.reduceAdd] at HK ⊢; refine ⟨rfl, ?_⟩)
          obtain ⟨hl1, hv1⟩ : l 6 = true ∧ val 6 = vo 6 := HD.out.1
          obtain ⟨hl2, hv2⟩ : l 2 = true ∧ val 2 = vo 2 := HD.out.2.1
          have hd2 := HJ.out.loads 2 (by decide) hl2
          obtain ⟨g, hg1, hg2, hg3⟩ := HJ.out.boxes 2 (by decide) hl1
          have hb : Box W g Z := by simpa [HLI.out] using hg3
          rw [HZ.out] at hb
          have e1 := hv1.trans hg1
          have e2 := hv2.trans hd2
          rw [e1, e2] at HK ⊢
          obtain ⟨x0, z0⟩ := hb.at_ 0 _ rfl
          obtain ⟨x1, z1⟩ := hb.at_ 1 _ rfl
          obtain ⟨x2, z2⟩ := hb.at_ 2 _ rfl
          obtain ⟨x3, z3⟩ := hb.at_ 3 _ rfl
          obtain ⟨x4, z4⟩ := hb.at_ 4 _ rfl
          obtain ⟨x5, z5⟩ := hb.at_ 5 _ rfl
          have hbD := (((((hb.set 0 (.slice Ap ps.length cp)).set 1 (.slice Al ls.length cl)).set 2 (I own)).set 3 (I wt)).set 4 (I ap)).set 5 (I pe)
          simp only [List.set_cons_zero, List.set_cons_succ] at hbD
          have HBD := Lib.hid hbD
          have HL1 := Lib.hid hl1
          have HG1 := Lib.hid hg1
          clear hbD hb hd2 hl2 hv2 hv1 e1 e2 hl1 hg1 hg3 HD
          gi_wp2
          exact HK.out undef _ (HJ.out.store 2 (by decide) HL1.out HG1.out undef (frm_set6 _ _ _ _ _ _ _ _) HBD.out)
        · (intro val l vo W hli hd hJ K hK; have HK := Lib.hid hK; have HD := Lib.hid hd; have HJ := Lib.hid hJ; have HLI := Lib.hid hli; clear hK hd hJ hli; simp only [putD, Act.put, List.setIfInBounds_toArray, List.set_cons_succ, List.set_cons_zero, Nat.zero_add, Nat.reduceAdd] at HK ⊢; refine ⟨rfl, ?_⟩)
          obtain ⟨hl1, hv1⟩ : l 7 = true ∧ val 7 = vo 7 := HD.out.1
          obtain ⟨hl2, hv2⟩ : l 3 = true ∧ val 3 = vo 3 := HD.out.2.1
          have hd2 := HJ.out.loads 3 (by decide) hl2
          obtain ⟨g, hg1, hg2, hg3⟩ := HJ.out.boxes 3 (by decide) hl1
          have hb : Box W g Z := by simpa [HLI.out] using hg3
          rw [HZ.out] at hb
          have e1 := hv1.trans hg1
          have e2 := hv2.trans hd2
          rw [e1, e2] at HK ⊢
          obtain ⟨x0, z0⟩ := hb.at_ 0 _ rfl
          obtain ⟨x1, z1⟩ := hb.at_ 1 _ rfl
          obtain ⟨x2, z2⟩ := hb.at_ 2 _ rfl
          obtain ⟨x3, z3⟩ := hb.at_ 3 _ rfl
          obtain ⟨x4, z4⟩ := hb.at_ 4 _ rfl
          obtain ⟨x5, z5⟩ := hb.at_ 5 _ rfl
          have hbD := (((((hb.set 0 (.slice Ap ps.length cp)).set 1 (.slice Al ls.length cl)).set 2 (I own)).set 3 (I wt)).set 4 (I ap)).set 5 (I pe)
          simp only [List.set_cons_zero, List.set_cons_succ] at hbD
          have HBD := Lib.hid hbD
          have HL1 := Lib.hid hl1
          have HG1 := Lib.hid hg1
          clear hbD hb hd2 hl2 hv2 hv1 e1 e2 hl1 hg1 hg3 HD
          gi_wp2
          exact HK.out undef _ (HJ.out.store 3 (by decide) HL1.out HG1.out undef (frm_set6 _ _ _ _ _ _ _ _) HBD.out)
      · intro l val W hall hJ
        obtain ⟨g1, e1, m1, b1⟩ := hJ.boxes 0 (by decide) (hall 4 (by decide))
        obtain ⟨g2, e2, m2, b2⟩ := hJ.boxes 1 (by decide) (hall 5 (by decide))
        obtain ⟨g3, e3, m3, b3⟩ := hJ.boxes 2 (by decide) (hall 6 (by decide))
        obtain ⟨g4, e4, m4, b4⟩ := hJ.boxes 3 (by decide) (hall 7 (by decide))
        have d12 := hJ.apart 0 1 (by decide) (by decide) (by decide) (hall 4 (by decide)) (hall 5 (by decide))
        have d13 := hJ.apart 0 2 (by decide) (by decide) (by decide) (hall 4 (by decide)) (hall 6 (by decide))
        have d14 := hJ.apart 0 3 (by decide) (by decide) (by decide) (hall 4 (by decide)) (hall 7 (by decide))
        have d23 := hJ.apart 1 2 (by decide) (by decide) (by decide) (hall 5 (by decide)) (hall 6 (by decide))
        have d24 := hJ.apart 1 3 (by decide) (by decide) (by decide) (hall 5 (by decide)) (hall 7 (by decide))
        have d34 := hJ.apart 2 3 (by decide) (by decide) (by decide) (hall 6 (by decide)) (hall 7 (by decide))
        rw [if_pos (hall 8 (by decide))] at b1
        rw [if_pos (hall 9 (by decide))] at b2
        rw [if_pos (hall 10 (by decide))] at b3
        rw [if_pos (hall 11 (by decide))] at b4
        have f1 : val 4 = _ := e1
        have f2 : val 5 = _ := e2
        have f3 : val 6 = _ := e3
        have f4 : val 7 = _ := e4
        have hne : ∀ {a b : Nat}, (.pointer (some ⟨a, 0, none⟩) : Value) ≠ .pointer (some ⟨b, 0, none⟩) → a ≠ b := fun h e => h (by rw [e])
        rw [e1, e2] at d12
        rw [e1, e3] at d13
        rw [e1, e4] at d14
        rw [e2, e3] at d23
        rw [e2, e4] at d24
        rw [e3, e4] at d34
        have hfinal := And.intro (hne d12) (And.intro (hne d13) (And.intro (hne d14) (And.intro (hne d23) (And.intro (hne d24) (And.intro (hne d34) (And.intro m1 (And.intro m2 (And.intro m3 (And.intro m4 (And.intro hJ.low (And.intro (Lib.hid b1) (And.intro (Lib.hid b2) (And.intro (Lib.hid b3) (Lib.hid b4))))))))))))))
        have HFIN := Lib.hid hfinal
        clear hfinal d12 d13 d14 d23 d24 d34 m1 m2 m3 m4 b1 b2 b3 b4 e1 e2 e3 e4 hne hJ hall
        simp only [putD, Act.put, List.setIfInBounds_toArray, List.set_cons_succ, List.set_cons_zero]
        rw [f1, f2, f3, f4]
        go_wp2_with fail
        go_meet
        exact ⟨by rw [HK.out], g1, g2, g3, g4, rfl, rfl, rfl, rfl, HFIN.out⟩
  case rest =>
    obtain ⟨rfl, g1, g2, g3, g4, rfl, rfl, rfl, rfl, d12, d13, d14, d23, d24, d34, m1, m2, m3, m4, hBc, b1, b2, b3, b4⟩ := hcut
    obtain ⟨⟨r1, r2, r3, r4, r5, r6, r7, r8, r9, r10, r11, r12, r13⟩, hqwc, hzwc⟩ := HCE.out wc (hw6.trans (hBc.mono hzw6))
    have hz7 := hBc.size
    have hm1 := m1; have hm2 := m2; have hm3 := m3; have hm4 := m4
    have ksub1 : IntKind.i64.wrap (pe - kq) = pe - kq := IntWalk.i64_in _ (by omega)
    have ksub2 : IntKind.i64.wrap (wt - kq) = wt - kq := IntWalk.i64_in _ (by omega)
    have ksub3 : IntKind.i64.wrap (own - kq) = own - kq := IntWalk.i64_in _ (by omega)
    have kadd4 : IntKind.i64.wrap (ap + kq) = ap + kq := IntWalk.i64_in _ (by omega)
    have KS1 := Lib.hid ksub1; have KS2 := Lib.hid ksub2; have KS3 := Lib.hid ksub3; have KS4 := Lib.hid kadd4
    clear ksub1 ksub2 ksub3 kadd4
    go_wp2_with fail
    go_cut [] (fun wx => Below w6.heap.size w6 wx ∧ Hid (Box wx g1 [.slice Ap ps.length cp, .slice Al ls.length cl, I own, I wt, I ap, I (max 0 (pe - kq))]) ∧ Hid (Box wx g2 [.slice Ap ps.length cp, .slice Al ls.length cl, I own, I (max 0 (wt - kq)), I ap, I pe]) ∧ Hid (Box wx g3 [.slice Ap ps.length cp, .slice Al ls.length cl, I (max 0 (own - kq)), I wt, I ap, I pe]) ∧ Hid (Box wx g4 [.slice Ap ps.length cp, .slice Al ls.length cl, I own, I wt, I (min 400 (ap + kq)), I pe]))
    case first =>
      as_aux_lemma =>
        refine (wpIn_wide (n := 9)).1 ?_
        refine wpIn_region_valsL [some 121, some 122, some 123, some 124, some 125, some 126, some 127, some 128, some 129, some 130, some 131, some 132, some 133, some 134, some 135, some 136, some 137, some 138, some 139, some 140, some 141, none, some 142, none, some 143, none, some 144, none] (nthV [.pointer (some ⟨w.heap.size + 1 + 1, 5, none⟩), I pe, I kq, I (pe - kq), I (max 0 (pe - kq)), .pointer (some ⟨w.heap.size + 1 + 1, 3, none⟩), I wt, I kq, I (wt - kq), I (max 0 (wt - kq)), .pointer (some ⟨w.heap.size + 1 + 1, 2, none⟩), I own, I kq, I (own - kq), I (max 0 (own - kq)), .pointer (some ⟨w.heap.size + 1 + 1, 4, none⟩), I ap, I kq, I (ap + kq), I (min 400 (ap + kq)), .pointer (some ⟨g1, 5, none⟩), undef, .pointer (some ⟨g2, 3, none⟩), undef, .pointer (some ⟨g3, 2, none⟩), undef, .pointer (some ⟨g4, 4, none⟩), undef])
          (fun l W => Below w6.heap.size w6 W ∧ Box W g1 (if l 21 = true then [.slice Ap ps.length cp, .slice Al ls.length cl, I own, I wt, I ap, I (max 0 (pe - kq))] else [.slice Ap ps.length cp, .slice Al ls.length cl, I own, I wt, I ap, I pe]) ∧ Box W g2 (if l 23 = true then [.slice Ap ps.length cp, .slice Al ls.length cl, I own, I (max 0 (wt - kq)), I ap, I pe] else [.slice Ap ps.length cp, .slice Al ls.length cl, I own, I wt, I ap, I pe]) ∧ Box W g3 (if l 25 = true then [.slice Ap ps.length cp, .slice Al ls.length cl, I (max 0 (own - kq)), I wt, I ap, I pe] else [.slice Ap ps.length cp, .slice Al ls.length cl, I own, I wt, I ap, I pe]) ∧ Box W g4 (if l 27 = true then [.slice Ap ps.length cp, .slice Al ls.length cl, I own, I wt, I (min 400 (ap + kq)), I pe] else [.slice Ap ps.length cp, .slice Al ls.length cl, I own, I wt, I ap, I pe]))
          rfl (by kernel_rfl) (by kernel_rfl) (by kernel_rfl) (fun _ d _ _ _ h => by cases d <;> exact h) ⟨hBc.drew, b1.out, b2.out, b3.out, b4.out⟩ ?_ ?_
        · refine ⟨?_, ?_, ?_, ?_, ?_, ?_, ?_, ?_, ?_, ?_, ?_, ?_, ?_, ?_, ?_, ?_, ?_, ?_, ?_, ?_, ?_, ?_, ?_, ?_, ?_, ?_, ?_, ?_, trivial⟩
          · (intro x l W hli hd hC K hK; have HK := Lib.hid hK; have HD := Lib.hid hd; have HC := Lib.hid hC; have HLI := Lib.hid hli; clear hK hd hC hli; simp only [putD, nthV, Act.put, List.setIfInBounds_toArray, List.set_cons_succ, List.set_cons_zero, Nat.zero_add, Nat.reduceAdd, Nat.reduceEqDiff, reduceIte, Nat.succ_ne_zero, Nat.zero_ne_one, Nat.one_ne_zero] at HK ⊢; refine ⟨rfl, ?_⟩)
            refine op_li rfl ?_
            go_simp
            exact HK.out _ HC.out
          · (intro x l W hli hd hC K hK; have HK := Lib.hid hK; have HD := Lib.hid hd; have HC := Lib.hid hC; have HLI := Lib.hid hli; clear hK hd hC hli; simp only [putD, nthV, Act.put, List.setIfInBounds_toArray, List.set_cons_succ, List.set_cons_zero, Nat.zero_add, Nat.reduceAdd, Nat.reduceEqDiff, reduceIte, Nat.succ_ne_zero, Nat.zero_ne_one, Nat.one_ne_zero] at HK ⊢; refine ⟨rfl, ?_⟩)
            obtain ⟨⟨f1, f2, f3, f4, f5, f6, f7, f8, f9, f10, f11, f12, f13⟩, hqW, hzW⟩ := HCE.out W (hw6.trans (HC.out.1.mono hzw6))
            refine op_li rfl ?_
            go_simp
            exact HK.out _ HC.out
          · (intro x l W hli hd hC K hK; have HK := Lib.hid hK; have HD := Lib.hid hd; have HC := Lib.hid hC; have HLI := Lib.hid hli; clear hK hd hC hli; simp only [putD, nthV, Act.put, List.setIfInBounds_toArray, List.set_cons_succ, List.set_cons_zero, Nat.zero_add, Nat.reduceAdd, Nat.reduceEqDiff, reduceIte, Nat.succ_ne_zero, Nat.zero_ne_one, Nat.one_ne_zero] at HK ⊢; refine ⟨rfl, ?_⟩)
            refine op_li rfl ?_
            go_simp
            exact HK.out _ HC.out
          · (intro x l W hli hd hC K hK; have HK := Lib.hid hK; have HD := Lib.hid hd; have HC := Lib.hid hC; have HLI := Lib.hid hli; clear hK hd hC hli; simp only [putD, nthV, Act.put, List.setIfInBounds_toArray, List.set_cons_succ, List.set_cons_zero, Nat.zero_add, Nat.reduceAdd, Nat.reduceEqDiff, reduceIte, Nat.succ_ne_zero, Nat.zero_ne_one, Nat.one_ne_zero] at HK ⊢; refine ⟨rfl, ?_⟩)
            have ks := KS1.out
            refine op_li rfl ?_
            go_simp
            exact HK.out _ HC.out
          · (intro x l W hli hd hC K hK; have HK := Lib.hid hK; have HD := Lib.hid hd; have HC := Lib.hid hC; have HLI := Lib.hid hli; clear hK hd hC hli; simp only [putD, nthV, Act.put, List.setIfInBounds_toArray, List.set_cons_succ, List.set_cons_zero, Nat.zero_add, Nat.reduceAdd, Nat.reduceEqDiff, reduceIte, Nat.succ_ne_zero, Nat.zero_ne_one, Nat.one_ne_zero] at HK ⊢; refine ⟨rfl, ?_⟩)
            refine op_li rfl ?_
            go_simp
            exact HK.out _ HC.out
          · (intro x l W hli hd hC K hK; have HK := Lib.hid hK; have HD := Lib.hid hd; have HC := Lib.hid hC; have HLI := Lib.hid hli; clear hK hd hC hli; simp only [putD, nthV, Act.put, List.setIfInBounds_toArray, List.set_cons_succ, List.set_cons_zero, Nat.zero_add, Nat.reduceAdd, Nat.reduceEqDiff, reduceIte, Nat.succ_ne_zero, Nat.zero_ne_one, Nat.one_ne_zero] at HK ⊢; refine ⟨rfl, ?_⟩)
            refine op_li rfl ?_
            go_simp
            exact HK.out _ HC.out
          · (intro x l W hli hd hC K hK; have HK := Lib.hid hK; have HD := Lib.hid hd; have HC := Lib.hid hC; have HLI := Lib.hid hli; clear hK hd hC hli; simp only [putD, nthV, Act.put, List.setIfInBounds_toArray, List.set_cons_succ, List.set_cons_zero, Nat.zero_add, Nat.reduceAdd, Nat.reduceEqDiff, reduceIte, Nat.succ_ne_zero, Nat.zero_ne_one, Nat.one_ne_zero] at HK ⊢; refine ⟨rfl, ?_⟩)
            obtain ⟨⟨f1, f2, f3, f4, f5, f6, f7, f8, f9, f10, f11, f12, f13⟩, hqW, hzW⟩ := HCE.out W (hw6.trans (HC.out.1.mono hzw6))
            refine op_li rfl ?_
            go_simp
            exact HK.out _ HC.out
          · (intro x l W hli hd hC K hK; have HK := Lib.hid hK; have HD := Lib.hid hd; have HC := Lib.hid hC; have HLI := Lib.hid hli; clear hK hd hC hli; simp only [putD, nthV, Act.put, List.setIfInBounds_toArray, List.set_cons_succ, List.set_cons_zero, Nat.zero_add, Nat.reduceAdd, Nat.reduceEqDiff, reduceIte, Nat.succ_ne_zero, Nat.zero_ne_one, Nat.one_ne_zero] at HK ⊢; refine ⟨rfl, ?_⟩)
            refine op_li rfl ?_
            go_simp
            exact HK.out _ HC.out
          · (intro x l W hli hd hC K hK; have HK := Lib.hid hK; have HD := Lib.hid hd; have HC := Lib.hid hC; have HLI := Lib.hid hli; clear hK hd hC hli; simp only [putD, nthV, Act.put, List.setIfInBounds_toArray, List.set_cons_succ, List.set_cons_zero, Nat.zero_add, Nat.reduceAdd, Nat.reduceEqDiff, reduceIte, Nat.succ_ne_zero, Nat.zero_ne_one, Nat.one_ne_zero] at HK ⊢; refine ⟨rfl, ?_⟩)
            have ks := KS2.out
            refine op_li rfl ?_
            go_simp
            exact HK.out _ HC.out
          · (intro x l W hli hd hC K hK; have HK := Lib.hid hK; have HD := Lib.hid hd; have HC := Lib.hid hC; have HLI := Lib.hid hli; clear hK hd hC hli; simp only [putD, nthV, Act.put, List.setIfInBounds_toArray, List.set_cons_succ, List.set_cons_zero, Nat.zero_add, Nat.reduceAdd, Nat.reduceEqDiff, reduceIte, Nat.succ_ne_zero, Nat.zero_ne_one, Nat.one_ne_zero] at HK ⊢; refine ⟨rfl, ?_⟩)
            refine op_li rfl ?_
            go_simp
            exact HK.out _ HC.out
          · (intro x l W hli hd hC K hK; have HK := Lib.hid hK; have HD := Lib.hid hd; have HC := Lib.hid hC; have HLI := Lib.hid hli; clear hK hd hC hli; simp only [putD, nthV, Act.put, List.setIfInBounds_toArray, List.set_cons_succ, List.set_cons_zero, Nat.zero_add, Nat.reduceAdd, Nat.reduceEqDiff, reduceIte, Nat.succ_ne_zero, Nat.zero_ne_one, Nat.one_ne_zero] at HK ⊢; refine ⟨rfl, ?_⟩)
            refine op_li rfl ?_
            go_simp
            exact HK.out _ HC.out
          · (intro x l W hli hd hC K hK; have HK := Lib.hid hK; have HD := Lib.hid hd; have HC := Lib.hid hC; have HLI := Lib.hid hli; clear hK hd hC hli; simp only [putD, nthV, Act.put, List.setIfInBounds_toArray, List.set_cons_succ, List.set_cons_zero, Nat.zero_add, Nat.reduceAdd, Nat.reduceEqDiff, reduceIte, Nat.succ_ne_zero, Nat.zero_ne_one, Nat.one_ne_zero] at HK ⊢; refine ⟨rfl, ?_⟩)
            obtain ⟨⟨f1, f2, f3, f4, f5, f6, f7, f8, f9, f10, f11, f12, f13⟩, hqW, hzW⟩ := HCE.out W (hw6.trans (HC.out.1.mono hzw6))
            refine op_li rfl ?_
            go_simp
            exact HK.out _ HC.out
          · (intro x l W hli hd hC K hK; have HK := Lib.hid hK; have HD := Lib.hid hd; have HC := Lib.hid hC; have HLI := Lib.hid hli; clear hK hd hC hli; simp only [putD, nthV, Act.put, List.setIfInBounds_toArray, List.set_cons_succ, List.set_cons_zero, Nat.zero_add, Nat.reduceAdd, Nat.reduceEqDiff, reduceIte, Nat.succ_ne_zero, Nat.zero_ne_one, Nat.one_ne_zero] at HK ⊢; refine ⟨rfl, ?_⟩)
            refine op_li rfl ?_
            go_simp
            exact HK.out _ HC.out
          · (intro x l W hli hd hC K hK; have HK := Lib.hid hK; have HD := Lib.hid hd; have HC := Lib.hid hC; have HLI := Lib.hid hli; clear hK hd hC hli; simp only [putD, nthV, Act.put, List.setIfInBounds_toArray, List.set_cons_succ, List.set_cons_zero, Nat.zero_add, Nat.reduceAdd, Nat.reduceEqDiff, reduceIte, Nat.succ_ne_zero, Nat.zero_ne_one, Nat.one_ne_zero] at HK ⊢; refine ⟨rfl, ?_⟩)
            have ks := KS3.out
            refine op_li rfl ?_
            go_simp
            exact HK.out _ HC.out
          · (intro x l W hli hd hC K hK; have HK := Lib.hid hK; have HD := Lib.hid hd; have HC := Lib.hid hC; have HLI := Lib.hid hli; clear hK hd hC hli; simp only [putD, nthV, Act.put, List.setIfInBounds_toArray, List.set_cons_succ, List.set_cons_zero, Nat.zero_add, Nat.reduceAdd, Nat.reduceEqDiff, reduceIte, Nat.succ_ne_zero, Nat.zero_ne_one, Nat.one_ne_zero] at HK ⊢; refine ⟨rfl, ?_⟩)
            refine op_li rfl ?_
            go_simp
            exact HK.out _ HC.out
          · (intro x l W hli hd hC K hK; have HK := Lib.hid hK; have HD := Lib.hid hd; have HC := Lib.hid hC; have HLI := Lib.hid hli; clear hK hd hC hli; simp only [putD, nthV, Act.put, List.setIfInBounds_toArray, List.set_cons_succ, List.set_cons_zero, Nat.zero_add, Nat.reduceAdd, Nat.reduceEqDiff, reduceIte, Nat.succ_ne_zero, Nat.zero_ne_one, Nat.one_ne_zero] at HK ⊢; refine ⟨rfl, ?_⟩)
            refine op_li rfl ?_
            go_simp
            exact HK.out _ HC.out
          · (intro x l W hli hd hC K hK; have HK := Lib.hid hK; have HD := Lib.hid hd; have HC := Lib.hid hC; have HLI := Lib.hid hli; clear hK hd hC hli; simp only [putD, nthV, Act.put, List.setIfInBounds_toArray, List.set_cons_succ, List.set_cons_zero, Nat.zero_add, Nat.reduceAdd, Nat.reduceEqDiff, reduceIte, Nat.succ_ne_zero, Nat.zero_ne_one, Nat.one_ne_zero] at HK ⊢; refine ⟨rfl, ?_⟩)
            obtain ⟨⟨f1, f2, f3, f4, f5, f6, f7, f8, f9, f10, f11, f12, f13⟩, hqW, hzW⟩ := HCE.out W (hw6.trans (HC.out.1.mono hzw6))
            refine op_li rfl ?_
            go_simp
            exact HK.out _ HC.out
          · (intro x l W hli hd hC K hK; have HK := Lib.hid hK; have HD := Lib.hid hd; have HC := Lib.hid hC; have HLI := Lib.hid hli; clear hK hd hC hli; simp only [putD, nthV, Act.put, List.setIfInBounds_toArray, List.set_cons_succ, List.set_cons_zero, Nat.zero_add, Nat.reduceAdd, Nat.reduceEqDiff, reduceIte, Nat.succ_ne_zero, Nat.zero_ne_one, Nat.one_ne_zero] at HK ⊢; refine ⟨rfl, ?_⟩)
            refine op_li rfl ?_
            go_simp
            exact HK.out _ HC.out
          · (intro x l W hli hd hC K hK; have HK := Lib.hid hK; have HD := Lib.hid hd; have HC := Lib.hid hC; have HLI := Lib.hid hli; clear hK hd hC hli; simp only [putD, nthV, Act.put, List.setIfInBounds_toArray, List.set_cons_succ, List.set_cons_zero, Nat.zero_add, Nat.reduceAdd, Nat.reduceEqDiff, reduceIte, Nat.succ_ne_zero, Nat.zero_ne_one, Nat.one_ne_zero] at HK ⊢; refine ⟨rfl, ?_⟩)
            have ks := KS4.out
            refine op_li rfl ?_
            go_simp
            exact HK.out _ HC.out
          · (intro x l W hli hd hC K hK; have HK := Lib.hid hK; have HD := Lib.hid hd; have HC := Lib.hid hC; have HLI := Lib.hid hli; clear hK hd hC hli; simp only [putD, nthV, Act.put, List.setIfInBounds_toArray, List.set_cons_succ, List.set_cons_zero, Nat.zero_add, Nat.reduceAdd, Nat.reduceEqDiff, reduceIte, Nat.succ_ne_zero, Nat.zero_ne_one, Nat.one_ne_zero] at HK ⊢; refine ⟨rfl, ?_⟩)
            refine op_li rfl ?_
            go_simp
            exact HK.out _ HC.out
          · (intro x l W hli hd hC K hK; have HK := Lib.hid hK; have HD := Lib.hid hd; have HC := Lib.hid hC; have HLI := Lib.hid hli; clear hK hd hC hli; simp only [putD, nthV, Act.put, List.setIfInBounds_toArray, List.set_cons_succ, List.set_cons_zero, Nat.zero_add, Nat.reduceAdd, Nat.reduceEqDiff, reduceIte, Nat.succ_ne_zero, Nat.zero_ne_one, Nat.one_ne_zero] at HK ⊢; refine ⟨rfl, ?_⟩)
            refine op_li rfl ?_
            go_simp
            exact HK.out _ HC.out
          · (intro x l W hli hd hC K hK; have HK := Lib.hid hK; have HD := Lib.hid hd; have HC := Lib.hid hC; have HLI := Lib.hid hli; clear hK hd hC hli; simp only [putD, nthV, Act.put, List.setIfInBounds_toArray, List.set_cons_succ, List.set_cons_zero, Nat.zero_add, Nat.reduceAdd, Nat.reduceEqDiff, reduceIte, Nat.succ_ne_zero, Nat.zero_ne_one, Nat.one_ne_zero] at HK ⊢; refine ⟨rfl, ?_⟩)
            obtain ⟨q0, q1, q2, q3, q4⟩ := HC.out
            have qb := q1
            rw [if_neg (by rw [HLI.out]; decide)] at qb
            obtain ⟨x0, z0⟩ := qb.at_ 5 _ rfl
            have qn := qb.set 5 (I (max 0 (pe - kq)))
            simp only [List.set_cons_zero, List.set_cons_succ] at qn
            have HN : Hid (Below w6.heap.size w6 (W.setCell ⟨g1, 5, none⟩ (I (max 0 (pe - kq)))) ∧ Box (W.setCell ⟨g1, 5, none⟩ (I (max 0 (pe - kq)))) g1 [.slice Ap ps.length cp, .slice Al ls.length cl, I own, I wt, I ap, I (max 0 (pe - kq))] ∧ Box (W.setCell ⟨g1, 5, none⟩ (I (max 0 (pe - kq)))) g2 (if l 23 = true then [.slice Ap ps.length cp, .slice Al ls.length cl, I own, I (max 0 (wt - kq)), I ap, I pe] else [.slice Ap ps.length cp, .slice Al ls.length cl, I own, I wt, I ap, I pe]) ∧ Box (W.setCell ⟨g1, 5, none⟩ (I (max 0 (pe - kq)))) g3 (if l 25 = true then [.slice Ap ps.length cp, .slice Al ls.length cl, I (max 0 (own - kq)), I wt, I ap, I pe] else [.slice Ap ps.length cp, .slice Al ls.length cl, I own, I wt, I ap, I pe]) ∧ Box (W.setCell ⟨g1, 5, none⟩ (I (max 0 (pe - kq)))) g4 (if l 27 = true then [.slice Ap ps.length cp, .slice Al ls.length cl, I own, I wt, I (min 400 (ap + kq)), I pe] else [.slice Ap ps.length cp, .slice Al ls.length cl, I own, I wt, I ap, I pe])) :=
              Lib.hid ⟨q0.setCell (by simp; omega) _, qn, q2.far (by simp; omega) _, q3.far (by simp; omega) _, q4.far (by simp; omega) _⟩
            clear q0 q1 q2 q3 q4 qb qn HC
            gi_wp2
            refine HK.out _ ?_
            simpa using HN.out
          · (intro x l W hli hd hC K hK; have HK := Lib.hid hK; have HD := Lib.hid hd; have HC := Lib.hid hC; have HLI := Lib.hid hli; clear hK hd hC hli; simp only [putD, nthV, Act.put, List.setIfInBounds_toArray, List.set_cons_succ, List.set_cons_zero, Nat.zero_add, Nat.reduceAdd, Nat.reduceEqDiff, reduceIte, Nat.succ_ne_zero, Nat.zero_ne_one, Nat.one_ne_zero] at HK ⊢; refine ⟨rfl, ?_⟩)
            refine op_li rfl ?_
            go_simp
            exact HK.out _ HC.out
          · (intro x l W hli hd hC K hK; have HK := Lib.hid hK; have HD := Lib.hid hd; have HC := Lib.hid hC; have HLI := Lib.hid hli; clear hK hd hC hli; simp only [putD, nthV, Act.put, List.setIfInBounds_toArray, List.set_cons_succ, List.set_cons_zero, Nat.zero_add, Nat.reduceAdd, Nat.reduceEqDiff, reduceIte, Nat.succ_ne_zero, Nat.zero_ne_one, Nat.one_ne_zero] at HK ⊢; refine ⟨rfl, ?_⟩)
            obtain ⟨q0, q1, q2, q3, q4⟩ := HC.out
            have qb := q2
            rw [if_neg (by rw [HLI.out]; decide)] at qb
            obtain ⟨x0, z0⟩ := qb.at_ 3 _ rfl
            have qn := qb.set 3 (I (max 0 (wt - kq)))
            simp only [List.set_cons_zero, List.set_cons_succ] at qn
            have HN : Hid (Below w6.heap.size w6 (W.setCell ⟨g2, 3, none⟩ (I (max 0 (wt - kq)))) ∧ Box (W.setCell ⟨g2, 3, none⟩ (I (max 0 (wt - kq)))) g1 (if l 21 = true then [.slice Ap ps.length cp, .slice Al ls.length cl, I own, I wt, I ap, I (max 0 (pe - kq))] else [.slice Ap ps.length cp, .slice Al ls.length cl, I own, I wt, I ap, I pe]) ∧ Box (W.setCell ⟨g2, 3, none⟩ (I (max 0 (wt - kq)))) g2 [.slice Ap ps.length cp, .slice Al ls.length cl, I own, I (max 0 (wt - kq)), I ap, I pe] ∧ Box (W.setCell ⟨g2, 3, none⟩ (I (max 0 (wt - kq)))) g3 (if l 25 = true then [.slice Ap ps.length cp, .slice Al ls.length cl, I (max 0 (own - kq)), I wt, I ap, I pe] else [.slice Ap ps.length cp, .slice Al ls.length cl, I own, I wt, I ap, I pe]) ∧ Box (W.setCell ⟨g2, 3, none⟩ (I (max 0 (wt - kq)))) g4 (if l 27 = true then [.slice Ap ps.length cp, .slice Al ls.length cl, I own, I wt, I (min 400 (ap + kq)), I pe] else [.slice Ap ps.length cp, .slice Al ls.length cl, I own, I wt, I ap, I pe])) :=
              Lib.hid ⟨q0.setCell (by simp; omega) _, q1.far (by simp; omega) _, qn, q3.far (by simp; omega) _, q4.far (by simp; omega) _⟩
            clear q0 q1 q2 q3 q4 qb qn HC
            gi_wp2
            refine HK.out _ ?_
            simpa using HN.out
          · (intro x l W hli hd hC K hK; have HK := Lib.hid hK; have HD := Lib.hid hd; have HC := Lib.hid hC; have HLI := Lib.hid hli; clear hK hd hC hli; simp only [putD, nthV, Act.put, List.setIfInBounds_toArray, List.set_cons_succ, List.set_cons_zero, Nat.zero_add, Nat.reduceAdd, Nat.reduceEqDiff, reduceIte, Nat.succ_ne_zero, Nat.zero_ne_one, Nat.one_ne_zero] at HK ⊢; refine ⟨rfl, ?_⟩)
            refine op_li rfl ?_
            go_simp
            exact HK.out _ HC.out
          · (intro x l W hli hd hC K hK; have HK := Lib.hid hK; have HD := Lib.hid hd; have HC := Lib.hid hC; have HLI := Lib.hid hli; clear hK hd hC hli; simp only [putD, nthV, Act.put, List.setIfInBounds_toArray, List.set_cons_succ, List.set_cons_zero, Nat.zero_add, Nat.reduceAdd, Nat.reduceEqDiff, reduceIte, Nat.succ_ne_zero, Nat.zero_ne_one, Nat.one_ne_zero] at HK ⊢; refine ⟨rfl, ?_⟩)
            obtain ⟨q0, q1, q2, q3, q4⟩ := HC.out
            have qb := q3
            rw [if_neg (by rw [HLI.out]; decide)] at qb
            obtain ⟨x0, z0⟩ := qb.at_ 2 _ rfl
            have qn := qb.set 2 (I (max 0 (own - kq)))
            simp only [List.set_cons_zero, List.set_cons_succ] at qn
            have HN : Hid (Below w6.heap.size w6 (W.setCell ⟨g3, 2, none⟩ (I (max 0 (own - kq)))) ∧ Box (W.setCell ⟨g3, 2, none⟩ (I (max 0 (own - kq)))) g1 (if l 21 = true then [.slice Ap ps.length cp, .slice Al ls.length cl, I own, I wt, I ap, I (max 0 (pe - kq))] else [.slice Ap ps.length cp, .slice Al ls.length cl, I own, I wt, I ap, I pe]) ∧ Box (W.setCell ⟨g3, 2, none⟩ (I (max 0 (own - kq)))) g2 (if l 23 = true then [.slice Ap ps.length cp, .slice Al ls.length cl, I own, I (max 0 (wt - kq)), I ap, I pe] else [.slice Ap ps.length cp, .slice Al ls.length cl, I own, I wt, I ap, I pe]) ∧ Box (W.setCell ⟨g3, 2, none⟩ (I (max 0 (own - kq)))) g3 [.slice Ap ps.length cp, .slice Al ls.length cl, I (max 0 (own - kq)), I wt, I ap, I pe] ∧ Box (W.setCell ⟨g3, 2, none⟩ (I (max 0 (own - kq)))) g4 (if l 27 = true then [.slice Ap ps.length cp, .slice Al ls.length cl, I own, I wt, I (min 400 (ap + kq)), I pe] else [.slice Ap ps.length cp, .slice Al ls.length cl, I own, I wt, I ap, I pe])) :=
              Lib.hid ⟨q0.setCell (by simp; omega) _, q1.far (by simp; omega) _, q2.far (by simp; omega) _, qn, q4.far (by simp; omega) _⟩
            clear q0 q1 q2 q3 q4 qb qn HC
            gi_wp2
            refine HK.out _ ?_
            simpa using HN.out
          · (intro x l W hli hd hC K hK; have HK := Lib.hid hK; have HD := Lib.hid hd; have HC := Lib.hid hC; have HLI := Lib.hid hli; clear hK hd hC hli; simp only [putD, nthV, Act.put, List.setIfInBounds_toArray, List.set_cons_succ, List.set_cons_zero, Nat.zero_add, Nat.reduceAdd, Nat.reduceEqDiff, reduceIte, Nat.succ_ne_zero, Nat.zero_ne_one, Nat.one_ne_zero] at HK ⊢; refine ⟨rfl, ?_⟩)
            refine op_li rfl ?_
            go_simp
            exact HK.out _ HC.out
          · (intro x l W hli hd hC K hK; have HK := Lib.hid hK; have HD := Lib.hid hd; have HC := Lib.hid hC; have HLI := Lib.hid hli; clear hK hd hC hli; simp only [putD, nthV, Act.put, List.setIfInBounds_toArray, List.set_cons_succ, List.set_cons_zero, Nat.zero_add, Nat.reduceAdd, Nat.reduceEqDiff, reduceIte, Nat.succ_ne_zero, Nat.zero_ne_one, Nat.one_ne_zero] at HK ⊢; refine ⟨rfl, ?_⟩)
            obtain ⟨q0, q1, q2, q3, q4⟩ := HC.out
            have qb := q4
            rw [if_neg (by rw [HLI.out]; decide)] at qb
            obtain ⟨x0, z0⟩ := qb.at_ 4 _ rfl
            have qn := qb.set 4 (I (min 400 (ap + kq)))
            simp only [List.set_cons_zero, List.set_cons_succ] at qn
            have HN : Hid (Below w6.heap.size w6 (W.setCell ⟨g4, 4, none⟩ (I (min 400 (ap + kq)))) ∧ Box (W.setCell ⟨g4, 4, none⟩ (I (min 400 (ap + kq)))) g1 (if l 21 = true then [.slice Ap ps.length cp, .slice Al ls.length cl, I own, I wt, I ap, I (max 0 (pe - kq))] else [.slice Ap ps.length cp, .slice Al ls.length cl, I own, I wt, I ap, I pe]) ∧ Box (W.setCell ⟨g4, 4, none⟩ (I (min 400 (ap + kq)))) g2 (if l 23 = true then [.slice Ap ps.length cp, .slice Al ls.length cl, I own, I (max 0 (wt - kq)), I ap, I pe] else [.slice Ap ps.length cp, .slice Al ls.length cl, I own, I wt, I ap, I pe]) ∧ Box (W.setCell ⟨g4, 4, none⟩ (I (min 400 (ap + kq)))) g3 (if l 25 = true then [.slice Ap ps.length cp, .slice Al ls.length cl, I (max 0 (own - kq)), I wt, I ap, I pe] else [.slice Ap ps.length cp, .slice Al ls.length cl, I own, I wt, I ap, I pe]) ∧ Box (W.setCell ⟨g4, 4, none⟩ (I (min 400 (ap + kq)))) g4 [.slice Ap ps.length cp, .slice Al ls.length cl, I own, I wt, I (min 400 (ap + kq)), I pe]) :=
              Lib.hid ⟨q0.setCell (by simp; omega) _, q1.far (by simp; omega) _, q2.far (by simp; omega) _, q3.far (by simp; omega) _, qn⟩
            clear q0 q1 q2 q3 q4 qb qn HC
            gi_wp2
            refine HK.out _ ?_
            simpa using HN.out
        · intro l W hall hC
          obtain ⟨c1, c2, c3, c4, c5⟩ := hC
          rw [if_pos (hall 21 (by decide))] at c2
          rw [if_pos (hall 23 (by decide))] at c3
          rw [if_pos (hall 25 (by decide))] at c4
          rw [if_pos (hall 27 (by decide))] at c5
          have HFIN := Lib.hid (And.intro c1 (And.intro (Lib.hid c2) (And.intro (Lib.hid c3) (And.intro (Lib.hid c4) (Lib.hid c5)))))
          clear c1 c2 c3 c4 c5 hall
          simp only [putD, nthV, Act.put, List.setIfInBounds_toArray, List.set_cons_succ, List.set_cons_zero]
          go_wp2_with fail
          go_meet
          exact HFIN.out
    case rest =>
      obtain ⟨hBx, x1, x2, x3, x4⟩ := hcut
      clear hBc b1 b2 b3 b4 hzwc hqwc hz7 r1 r2 r3 r4 r5 r6 r7 r8 r9 r10 r11 r12 r13
      have hzx := hBx.size
      have hwx := hw6.trans (hBx.mono hzw6)
      obtain ⟨⟨r1, r2, r3, r4, r5, r6, r7, r8, r9, r10, r11, r12, r13⟩, hqx, hzwx⟩ := HCE.out wc hwx
      go_wp2_with fail
      go_loopw [148] (fun s148 wr => ∃ i : Nat, i ≤ ps.length ∧ s148 = I i ∧ Below wc.heap.size wc wr) (fun s148 _ => ps.length - (intOf s148).toNat)
      case atStart => exact ⟨0, Nat.zero_le _, rfl, Below.refl _ _⟩
      case round =>
        obtain ⟨i, hi, rfl, hBr⟩ := hrel
        have hzr := hBr.size
        have hwr := hwx.trans (hBr.mono hzwx)
        clear r1 r2 r3 r4 r5 r6 r7 r8 r9 r10 r11 r12 r13
        obtain ⟨⟨r1, r2, r3, r4, r5, r6, r7, r8, r9, r10, r11, r12, r13⟩, hqr, hzwr⟩ := HCE.out wr hwr
        by_cases hlt : i < ps.length
        · skip
          have tokA : True := trivial
          have hden1 : ¬ p2 i < 1 := by have := HDEN.out i hlt; omega
          go_wp2_with (first
            | (go_at_call 14; have _t := tokA; refine (HLD.out wr hqr i hlt).mono ?_; rintro e w7 ⟨rfl, hB7⟩; clear tokA;
               have hz7 := hB7.size; have hBx7 : Below wc.heap.size wc (w7.alloc (.cells #[I (p1 i), I (p2 i)] 33)) := (hBr.trans (hB7.mono hzr)).alloc (by omega) _;
               obtain ⟨y10, y11, y12, y13, y14, y15⟩ := (x1.out.below hBx7 x1.out.1).six; obtain ⟨y20, y21, y22, y23, y24, y25⟩ := (x2.out.below hBx7 x2.out.1).six; obtain ⟨y30, y31, y32, y33, y34, y35⟩ := (x3.out.below hBx7 x3.out.1).six; obtain ⟨y40, y41, y42, y43, y44, y45⟩ := (x4.out.below hBx7 x4.out.1).six)
            | fail)
          have hR7 := (Box.new (w7.alloc (.cells #[I (p1 i), I (p2 i)] 33)) [.slice Ap ps.length cp, .slice Al ls.length cl, I own, I wt, I ap, I (max 0 (pe - kq)), .slice Ap ps.length cp, .slice Al ls.length cl, I own, I (max 0 (wt - kq)), I ap, I pe, .slice Ap ps.length cp, .slice Al ls.length cl, I (max 0 (own - kq)), I wt, I ap, I pe, .slice Ap ps.length cp, .slice Al ls.length cl, I own, I wt, I (min 400 (ap + kq)), I pe] 24)
          have hP7 := (Box.new w7 [I (p1 i), I (p2 i)] 33).alloc (.cells #[.slice Ap ps.length cp, .slice Al ls.length cl, I own, I wt, I ap, I (max 0 (pe - kq)), .slice Ap ps.length cp, .slice Al ls.length cl, I own, I (max 0 (wt - kq)), I ap, I pe, .slice Ap ps.length cp, .slice Al ls.length cl, I (max 0 (own - kq)), I wt, I ap, I pe, .slice Ap ps.length cp, .slice Al ls.length cl, I own, I wt, I (min 400 (ap + kq)), I pe] 24)
          rw [show (w7.alloc (.cells #[I (p1 i), I (p2 i)] 33)).heap.size = w7.heap.size + 1 by simp] at hR7
          obtain ⟨wy, hwy⟩ : ∃ wy, wy = (w7.alloc (.cells #[I (p1 i), I (p2 i)] 33)).alloc (.cells #[.slice Ap ps.length cp, .slice Al ls.length cl, I own, I wt, I ap, I (max 0 (pe - kq)), .slice Ap ps.length cp, .slice Al ls.length cl, I own, I (max 0 (wt - kq)), I ap, I pe, .slice Ap ps.length cp, .slice Al ls.length cl, I (max 0 (own - kq)), I wt, I ap, I pe, .slice Ap ps.length cp, .slice Al ls.length cl, I own, I wt, I (min 400 (ap + kq)), I pe] 24) := ⟨_, rfl⟩
          have hBy : Below wc.heap.size wc wy := by rw [hwy]; exact hBx7.alloc (by simp; omega) _
          have hR7' : Hid (Box wy (w7.heap.size + 1) [.slice Ap ps.length cp, .slice Al ls.length cl, I own, I wt, I ap, I (max 0 (pe - kq)), .slice Ap ps.length cp, .slice Al ls.length cl, I own, I (max 0 (wt - kq)), I ap, I pe, .slice Ap ps.length cp, .slice Al ls.length cl, I (max 0 (own - kq)), I wt, I ap, I pe, .slice Ap ps.length cp, .slice Al ls.length cl, I own, I wt, I (min 400 (ap + kq)), I pe]) := Lib.hid (by rw [hwy]; exact hR7)
          have hP7' : Hid (Box wy w7.heap.size [I (p1 i), I (p2 i)]) := Lib.hid (by rw [hwy]; exact hP7)
          have hzy : w7.heap.size + 2 ≤ wy.heap.size := by rw [hwy]; simp
          clear hR7 hP7
          rw [← hwy]
          clear hwy y10 y11 y12 y13 y14 y15 y20 y21 y22 y23 y24 y25 y30 y31 y32 y33 y34 y35 y40 y41 y42 y43 y44 y45
          go_loopw [163] (fun s163 wr => ∃ k : Nat, k ≤ 4 ∧ s163 = I k ∧ Below wy.heap.size wy wr) (fun s163 _ => 4 - (intOf s163).toNat)
          case atStart => exact ⟨0, Nat.zero_le _, rfl, Below.refl _ _⟩
          case round =>
            obtain ⟨k, hk, rfl, hBq⟩ := hrel
            have hzq := hBq.size
            have hwq := hwx.trans ((hBy.trans (hBq.mono (by have := hBy.size; omega))).mono hzwx)
            obtain ⟨⟨q1, q2, q3, q4, q5, q6, q7, q8, q9, q10, q11, q12, q13⟩, hqq, hzwq⟩ := HCE.out wr hwq
            clear q1 q2 q3 q4 q5 q6 q7 q8 q9 q10 q11 q12 q13 r1 r2 r3 r4 r5 r6 r7 r8 r9 r10 r11 r12 r13
            by_cases hlk : k < 4
            · as_aux_lemma =>
                have tokB : True := trivial
                have hden2 : ¬ q2 k i < 1 := by have := HDENK.out k i hlt; omega
                obtain ⟨v0, v1, v2, v3, v4, v5⟩ := row_dk (hR7'.out.below hBq (by omega)) k hlk
                have hlk14 := HLK.out k i hlt
                generalize (dk { posts := ps, lengths := ls, own := own, weight := wt, apart := ap, persons := pe } kq k).posts.length = t0 at v0 hlk14
                generalize (dk { posts := ps, lengths := ls, own := own, weight := wt, apart := ap, persons := pe } kq k).lengths.length = t1 at v1 hlk14
                generalize (dk { posts := ps, lengths := ls, own := own, weight := wt, apart := ap, persons := pe } kq k).own = t2 at v2 hlk14
                generalize (dk { posts := ps, lengths := ls, own := own, weight := wt, apart := ap, persons := pe } kq k).weight = t3 at v3 hlk14
                generalize (dk { posts := ps, lengths := ls, own := own, weight := wt, apart := ap, persons := pe } kq k).apart = t4 at v4 hlk14
                generalize (dk { posts := ps, lengths := ls, own := own, weight := wt, apart := ap, persons := pe } kq k).persons = t5 at v5 hlk14
                have HL14 := Lib.hid hlk14
                clear hlk14
                have hz8a : w7.heap.size < wr.heap.size := by omega
                have hz8b : w7.heap.size + 1 < wr.heap.size := by omega
                go_wp2_with (first
                  | (go_at_call 14; have _t := tokB; refine (HL14.out _ (hqq.trans ((below1 wr _).mono hqq.size))).mono ?_; rintro e w8 ⟨rfl, hB8⟩; clear tokB;
                     have hz8 := hB8.size; have hB8q : Below wr.heap.size wr w8 := below_call (by (repeat' (first | assumption | exact Below.refl _ _ | refine Below.drew ?_ | refine below_drewN ?_ _ | refine Below.setCell ?_ (by first | omega | (simp; done) | (simp; omega)) _ | refine Below.alloc ?_ (by first | omega | (simp; done) | (simp; omega)) _ | refine Below.trans ?_ (Below.mono (by assumption) (by first | omega | (simp; done) | (simp; omega)))))) hB8; obtain ⟨u0, u1⟩ : w8.cell? ⟨w7.heap.size, 0, none⟩ = some (I (p1 i)) ∧ w8.cell? ⟨w7.heap.size, 1, none⟩ = some (I (p2 i)) := ⟨(((hP7'.out.call hBq).call hB8q).at_ 0 _ rfl).1, (((hP7'.out.call hBq).call hB8q).at_ 1 _ rfl).1⟩; have hz8c : w7.heap.size < w8.heap.size := (by simp at hz8; omega))
                  | (go_at_call 15; refine (HLS.out k i hlt _).mono ?_; rintro e w9 ⟨rfl, hB9⟩))
                go_roundw
                case rel => exact ⟨k + 1, by omega, by go_num, hBq.trans ((hB8q.trans ((below_call (by (repeat' (first | assumption | exact Below.refl _ _ | refine Below.drew ?_ | refine below_drewN ?_ _ | refine Below.setCell ?_ (by first | omega | (simp; done) | (simp; omega)) _ | refine Below.alloc ?_ (by first | omega | (simp; done) | (simp; omega)) _ | refine Below.trans ?_ (Below.mono (by assumption) (by first | omega | (simp; done) | (simp; omega)))))) hB9).mono (by have := hB8q.size; omega))).mono hzq)⟩
                case measure => simp [intOf]; omega
            · as_aux_lemma =>
                go_wp2_with fail
                go_roundw
                case rel => exact ⟨i + 1, by omega, by go_num, hBy.trans (hBq.mono hBy.size)⟩
                case measure => simp [intOf]; omega
        · as_aux_lemma =>
            have hs0 : w.heap.size < wr.heap.size := by omega
            have hs1 : w.heap.size + 1 < wr.heap.size := by omega
            have hs2 : w.heap.size + 1 + 1 < wr.heap.size := by omega
            have hs3 : w.heap.size + 1 + 1 + 1 < wr.heap.size := by omega
            have tokD : True := trivial
            go_wp2_with (first
              | (go_at_call 25; have _t := tokD; refine (HHD.out _ (hqr.trans ((below1 wr _).mono hqr.size))).mono ?_; rintro e w10 ⟨rfl, hB10⟩; clear tokD; have hz10 := hB10.size; have hB10r : Below wr.heap.size wr w10 := below_call (by (repeat' (first | assumption | exact Below.refl _ _ | refine Below.drew ?_ | refine below_drewN ?_ _ | refine Below.setCell ?_ (by first | omega | (simp; done) | (simp; omega)) _ | refine Below.alloc ?_ (by first | omega | (simp; done) | (simp; omega)) _ | refine Below.trans ?_ (Below.mono (by assumption) (by first | omega | (simp; done) | (simp; omega)))))) hB10)
              | fail)
            clear r1 r2 r3 r4 r5 r6 r7 r8 r9 r10 r11 r12 r13
            have hw10 := hwr.trans (hB10r.mono hzwr)
            obtain ⟨⟨r1, r2, r3, r4, r5, r6, r7, r8, r9, r10, r11, r12, r13⟩, hqw10, hzw10⟩ := HCE.out w10 hw10
            go_cut [32, 33] (fun s32 s33 wx => Below w10.heap.size w10 wx ∧ ∃ a b : Int, s32 = I a ∧ s33 = I b ∧ (b == 0) = false)
            case first =>
              as_aux_lemma =>
                refine (wpIn_wide (n := 9)).1 ?_
                refine wpIn_region_plan (Plan.ons [0, 2, 4, 7] (.two 1 (.two 3 (Plan.ons [5, 6, 8, 9, 10, 11, 12, 13] .fin) 5 (Plan.ons [3, 6, 8, 9, 10, 11, 12, 13] .fin)) 5 (Plan.ons [1, 3, 6, 8, 9, 10, 11, 12, 13] .fin))) [0, 2, 4, 7]
                  (fun W => Below w10.heap.size w10 W) [] rfl (by kernel_rfl) (by kernel_rfl) (fun _ d _ _ _ h => by cases d <;> exact h) (Below.refl _ _).drew ?_
                refine ordQ_held (.agg #[I wd, I fm, .slice A ra.length c]) rfl rfl rfl rfl (fun W' hC' => ?_) (fun K hK => ?_)
                · obtain ⟨⟨f1, f2, f3, f4, f5, f6, f7, f8, f9, f10, f11, f12, f13⟩, hqW, hzW⟩ := HCE.out W' (hw10.trans (hC'.mono hzw10))
                  go_simp
                  try exact ⟨rfl, rfl⟩
                go_simp
                refine hK _ ?_
                clear hK K
                refine ordQ_held (.slice B l.length cb) rfl rfl rfl rfl (fun W' hC' => ?_) (fun K hK => ?_)
                · obtain ⟨⟨f1, f2, f3, f4, f5, f6, f7, f8, f9, f10, f11, f12, f13⟩, hqW, hzW⟩ := HCE.out W' (hw10.trans (hC'.mono hzw10))
                  go_simp
                  try exact ⟨rfl, rfl⟩
                go_simp
                refine hK _ ?_
                clear hK K
                refine ordQ_held (.agg #[I s1, I s2, I s3]) rfl rfl rfl rfl (fun W' hC' => ?_) (fun K hK => ?_)
                · obtain ⟨⟨f1, f2, f3, f4, f5, f6, f7, f8, f9, f10, f11, f12, f13⟩, hqW, hzW⟩ := HCE.out W' (hw10.trans (hC'.mono hzw10))
                  go_simp
                  try exact ⟨rfl, rfl⟩
                go_simp
                refine hK _ ?_
                clear hK K
                refine ordQ_held (.agg #[.slice Ap ps.length cp, .slice Al ls.length cl, I own, I wt, I ap, I pe]) rfl rfl rfl rfl (fun W' hC' => ?_) (fun K hK => ?_)
                · obtain ⟨⟨f1, f2, f3, f4, f5, f6, f7, f8, f9, f10, f11, f12, f13⟩, hqW, hzW⟩ := HCE.out W' (hw10.trans (hC'.mono hzw10))
                  go_simp
                  try exact ⟨rfl, rfl⟩
                go_simp
                refine hK _ ?_
                clear hK K
                refine ordQ_two rfl rfl rfl rfl (fun K hK => ?_) (fun K hK => ?_)
                · have hBa : Below w10.heap.size w10 w10.drew := (Below.refl _ _).drew
                  have hb1 : Below w10.heap.size w10 (w10.alloc (.cells #[] 55)).drew := ((Below.refl _ w10).alloc (Nat.le_refl _) _).drew
                  have ho1 : (w10.alloc (.cells #[] 55)).drew.ownsRow w10.heap.size 55 3 (.slice (some ⟨w10.heap.size, 0, none⟩) 0 0) 0 [] := by have := World.ownsRow_made (base := w10.heap.size) (e := 55) (size := 3) w10 #[] 0 (by simp) (Nat.zero_le _) (by simp); exact this
                  gi_wp2
                  refine hK _ _ (fun _ => hb1) ?_
                  clear hK K
                  refine ordQ_two rfl rfl rfl rfl (fun K hK => ?_) (fun K hK => ?_)
                  · refine opIn_append_any rfl _ _ _ 45 rfl w10.heap.size 55 i0 _ 3 24 HU.out HJ0.out HJ1.out HJ2.out HJ3.out rfl (by decide) (.slice (some ⟨w10.heap.size, 0, none⟩) 0 0) 0 [] rfl ho1 B l.length cb (flat3 l) rfl (flat3_length l) (threes_cells (HTL.out.below (hqw10.trans (hb1.mono hqw10.size)))) (flat3_one l) (by simp [maxLen]; omega) (by omega) (by first | exact hb1.size | (simp; done) | (simp; omega)) ?_
                    intro v2 W2 hv2 hg2
                    have hb2 := (hb1).grown hg2 (by first | exact hb1.size | (simp; done) | (simp; omega)) (fun k hk => (ho1.lt k hk).1)
                    clear hg2
                    simp only [Nat.zero_add, List.nil_append] at hv2
                    refine hK _ _ (fun _ => hb2) ?_
                    clear hK K
                    refine ordQ_hv rfl rfl rfl (fun K hK => ?_)
                    have hb3 : Below w10.heap.size w10 (W2.alloc (.cells #[I s1, I s2, I s3] 55)) := (hb2).alloc (hb2).size _
                    have hn3 : Box (W2.alloc (.cells #[I s1, I s2, I s3] 55)) (W2.heap.size) [I s1, I s2, I s3] := by have := Box.new W2 [I s1, I s2, I s3] 55; exact this
                    have hr3 : (W2.alloc (.cells #[I s1, I s2, I s3] 55)).ownsRow _ _ _ _ _ _ := grown_own hv2 ((Below.refl _ _).alloc (Nat.le_refl _) (.cells #[I s1, I s2, I s3] 55))
                    gi_wp2
                    refine hK _ _ (fun _ => hb3) ?_
                    clear hK K
                    refine ordQ_hv rfl rfl rfl (fun K hK => ?_)
                    refine opIn_append_any rfl _ _ _ 45 rfl w10.heap.size 55 i0 _ 3 24 HU.out HJ0.out HJ1.out HJ2.out HJ3.out rfl (by decide) v2 l.length (flat3 l) rfl hr3 _ 1 1 [I s1, I s2, I s3] rfl rfl (fun _ => ⟨_, rfl, fun j u hj => by rw [Addr.add_lit, Nat.zero_add]; exact (hn3.at_ j u hj).1⟩) (fun u hu => by simp at hu; rcases hu with rfl | rfl | rfl <;> rfl) (by simp [maxLen]; omega) (by omega) (by first | exact hb3.size | (simp; done) | (simp; omega)) ?_
                    intro v4 W4 hv4 hg4
                    have hb4 := (hb3).grown hg4 (by first | exact hb3.size | (simp; done) | (simp; omega)) (fun k hk => (hr3.lt k hk).1)
                    clear hg4
                    refine hK _ _ (fun _ => hb4) ?_
                    clear hK K
                    refine ordQ_hv rfl rfl rfl (fun K hK => ?_)
                    obtain ⟨A8, c8, rfl⟩ := slice_of_own3 hv4
                    have h8 : Threes W4 W4.heap.size A8 (l ++ [(s1, s2, s3)]) := threes_of_own (xs := l ++ [(s1, s2, s3)]) (by have := hv4; simpa [flat3] using this) (by simp)
                    have H8 := Lib.hid (HMR.out W4 (hqw10.trans (hb4.mono hqw10.size)) A8 c8 h8)
                    gi_wp2_with (refine And.intro trivial ?_; gi_at_call 25; refine callsIn_wide.2 (H8.out.mono ?_); rintro e w11 ⟨⟨x11, y11, rfl, hne11⟩, hB11⟩)
                    refine hK _ _ (fun _ => hb4.trans (hB11.mono hb4.size)) ?_
                    clear hK K
                    (refine ordQ_li rfl rfl rfl (fun K hK => ?_); go_simp; refine hK _ ?_; clear hK K)
                    (refine ordQ_li rfl rfl rfl (fun K hK => ?_); go_simp; refine hK _ ?_; clear hK K)
                    (refine ordQ_li rfl rfl rfl (fun K hK => ?_); go_simp; refine hK _ ?_; clear hK K)
                    (refine ordQ_li rfl rfl rfl (fun K hK => ?_); go_simp; refine hK _ ?_; clear hK K)
                    (refine ordQ_li rfl rfl rfl (fun K hK => ?_); go_simp; refine hK _ ?_; clear hK K)
                    refine ordQ_fin ?_
                    go_wp2_with fail
                    go_meet
                    exact ⟨hb4.trans (hB11.mono hb4.size), x11, y11, rfl, rfl, by simpa using hne11⟩
                  · have hb2 : Below w10.heap.size w10 ((w10.alloc (.cells #[] 55)).alloc (.cells #[I s1, I s2, I s3] 55)).drew := (((Below.refl _ w10).alloc (Nat.le_refl _) _).alloc (by simp) _).drew
                    have hn2 : Box ((w10.alloc (.cells #[] 55)).alloc (.cells #[I s1, I s2, I s3] 55)).drew (w10.heap.size + 1) [I s1, I s2, I s3] := by have := Box.new (w10.alloc (.cells #[] 55)) [I s1, I s2, I s3] 55; rwa [show ((w10.alloc (.cells #[] 55))).heap.size = w10.heap.size + 1 by simp] at this
                    have hr2 : ((w10.alloc (.cells #[] 55)).alloc (.cells #[I s1, I s2, I s3] 55)).drew.ownsRow _ _ _ _ _ _ := grown_own ho1 ((Below.refl _ _).alloc (Nat.le_refl _) (.cells #[I s1, I s2, I s3] 55))
                    gi_wp2
                    refine hK _ _ (fun _ => hb2) ?_
                    clear hK K
                    refine ordQ_hv rfl rfl rfl (fun K hK => ?_)
                    refine opIn_append_any rfl _ _ _ 45 rfl w10.heap.size 55 i0 _ 3 24 HU.out HJ0.out HJ1.out HJ2.out HJ3.out rfl (by decide) (.slice (some ⟨w10.heap.size, 0, none⟩) 0 0) 0 [] rfl hr2 B l.length cb (flat3 l) rfl (flat3_length l) (threes_cells (HTL.out.below (hqw10.trans (hb2.mono hqw10.size)))) (flat3_one l) (by simp [maxLen]; omega) (by omega) (by first | exact hb2.size | (simp; done) | (simp; omega)) ?_
                    intro v3 W3 hv3 hg3
                    have hb3 := (hb2).grown hg3 (by first | exact hb2.size | (simp; done) | (simp; omega)) (fun k hk => (hr2.lt k hk).1)
                    have hn3 : Box W3 _ [I s1, I s2, I s3] := hn2.grown hg3 (by simp [Value.ownBlock])
                    clear hg3
                    simp only [Nat.zero_add, List.nil_append] at hv3
                    refine hK _ _ (fun _ => hb3) ?_
                    clear hK K
                    refine ordQ_hv rfl rfl rfl (fun K hK => ?_)
                    refine opIn_append_any rfl _ _ _ 45 rfl w10.heap.size 55 i0 _ 3 24 HU.out HJ0.out HJ1.out HJ2.out HJ3.out rfl (by decide) v3 l.length (flat3 l) rfl hv3 _ 1 1 [I s1, I s2, I s3] rfl rfl (fun _ => ⟨_, rfl, fun j u hj => by rw [Addr.add_lit, Nat.zero_add]; exact (hn3.at_ j u hj).1⟩) (fun u hu => by simp at hu; rcases hu with rfl | rfl | rfl <;> rfl) (by simp [maxLen]; omega) (by omega) (by first | exact hb3.size | (simp; done) | (simp; omega)) ?_
                    intro v4 W4 hv4 hg4
                    have hb4 := (hb3).grown hg4 (by first | exact hb3.size | (simp; done) | (simp; omega)) (fun k hk => (hv3.lt k hk).1)
                    clear hg4
                    refine hK _ _ (fun _ => hb4) ?_
                    clear hK K
                    refine ordQ_hv rfl rfl rfl (fun K hK => ?_)
                    obtain ⟨A8, c8, rfl⟩ := slice_of_own3 hv4
                    have h8 : Threes W4 W4.heap.size A8 (l ++ [(s1, s2, s3)]) := threes_of_own (xs := l ++ [(s1, s2, s3)]) (by have := hv4; simpa [flat3] using this) (by simp)
                    have H8 := Lib.hid (HMR.out W4 (hqw10.trans (hb4.mono hqw10.size)) A8 c8 h8)
                    gi_wp2_with (refine And.intro trivial ?_; gi_at_call 25; refine callsIn_wide.2 (H8.out.mono ?_); rintro e w11 ⟨⟨x11, y11, rfl, hne11⟩, hB11⟩)
                    refine hK _ _ (fun _ => hb4.trans (hB11.mono hb4.size)) ?_
                    clear hK K
                    (refine ordQ_li rfl rfl rfl (fun K hK => ?_); go_simp; refine hK _ ?_; clear hK K)
                    (refine ordQ_li rfl rfl rfl (fun K hK => ?_); go_simp; refine hK _ ?_; clear hK K)
                    (refine ordQ_li rfl rfl rfl (fun K hK => ?_); go_simp; refine hK _ ?_; clear hK K)
                    (refine ordQ_li rfl rfl rfl (fun K hK => ?_); go_simp; refine hK _ ?_; clear hK K)
                    (refine ordQ_li rfl rfl rfl (fun K hK => ?_); go_simp; refine hK _ ?_; clear hK K)
                    refine ordQ_fin ?_
                    go_wp2_with fail
                    go_meet
                    exact ⟨hb4.trans (hB11.mono hb4.size), x11, y11, rfl, rfl, by simpa using hne11⟩
                · have hBa : Below w10.heap.size w10 w10.drew := (Below.refl _ _).drew
                  have hb1 : Below w10.heap.size w10 (w10.alloc (.cells #[I s1, I s2, I s3] 55)).drew := ((Below.refl _ w10).alloc (Nat.le_refl _) _).drew
                  have hn1 : Box (w10.alloc (.cells #[I s1, I s2, I s3] 55)).drew (w10.heap.size) [I s1, I s2, I s3] := by have := Box.new w10 [I s1, I s2, I s3] 55; exact this
                  gi_wp2
                  refine hK _ _ (fun _ => hb1) ?_
                  clear hK K
                  refine ordQ_hv rfl rfl rfl (fun K hK => ?_)
                  have hb2 : Below w10.heap.size w10 ((w10.alloc (.cells #[I s1, I s2, I s3] 55)).alloc (.cells #[] 55)).drew := (((Below.refl _ w10).alloc (Nat.le_refl _) _).alloc (by simp) _).drew
                  have ho2 : ((w10.alloc (.cells #[I s1, I s2, I s3] 55)).alloc (.cells #[] 55)).drew.ownsRow w10.heap.size 55 3 (.slice (some ⟨w10.heap.size + 1, 0, none⟩) 0 0) 0 [] := by have := World.ownsRow_made (base := w10.heap.size) (e := 55) (size := 3) (w10.alloc (.cells #[I s1, I s2, I s3] 55)) #[] 0 (by simp) (Nat.zero_le _) (by simp); rwa [show ((w10.alloc (.cells #[I s1, I s2, I s3] 55))).heap.size = w10.heap.size + 1 by simp] at this
                  have hn2 : Box ((w10.alloc (.cells #[I s1, I s2, I s3] 55)).alloc (.cells #[] 55)).drew w10.heap.size [I s1, I s2, I s3] := hn1.alloc _
                  gi_wp2
                  refine hK _ _ (fun _ => hb2) ?_
                  clear hK K
                  refine ordQ_hv rfl rfl rfl (fun K hK => ?_)
                  refine opIn_append_any rfl _ _ _ 45 rfl w10.heap.size 55 i0 _ 3 24 HU.out HJ0.out HJ1.out HJ2.out HJ3.out rfl (by decide) (.slice (some ⟨w10.heap.size + 1, 0, none⟩) 0 0) 0 [] rfl ho2 B l.length cb (flat3 l) rfl (flat3_length l) (threes_cells (HTL.out.below (hqw10.trans (hb2.mono hqw10.size)))) (flat3_one l) (by simp [maxLen]; omega) (by omega) (by first | exact hb2.size | (simp; done) | (simp; omega)) ?_
                  intro v3 W3 hv3 hg3
                  have hb3 := (hb2).grown hg3 (by first | exact hb2.size | (simp; done) | (simp; omega)) (fun k hk => (ho2.lt k hk).1)
                  have hn3 : Box W3 _ [I s1, I s2, I s3] := hn2.grown hg3 (by simp [Value.ownBlock])
                  clear hg3
                  simp only [Nat.zero_add, List.nil_append] at hv3
                  refine hK _ _ (fun _ => hb3) ?_
                  clear hK K
                  refine ordQ_hv rfl rfl rfl (fun K hK => ?_)
                  refine opIn_append_any rfl _ _ _ 45 rfl w10.heap.size 55 i0 _ 3 24 HU.out HJ0.out HJ1.out HJ2.out HJ3.out rfl (by decide) v3 l.length (flat3 l) rfl hv3 _ 1 1 [I s1, I s2, I s3] rfl rfl (fun _ => ⟨_, rfl, fun j u hj => by rw [Addr.add_lit, Nat.zero_add]; exact (hn3.at_ j u hj).1⟩) (fun u hu => by simp at hu; rcases hu with rfl | rfl | rfl <;> rfl) (by simp [maxLen]; omega) (by omega) (by first | exact hb3.size | (simp; done) | (simp; omega)) ?_
                  intro v4 W4 hv4 hg4
                  have hb4 := (hb3).grown hg4 (by first | exact hb3.size | (simp; done) | (simp; omega)) (fun k hk => (hv3.lt k hk).1)
                  clear hg4
                  refine hK _ _ (fun _ => hb4) ?_
                  clear hK K
                  refine ordQ_hv rfl rfl rfl (fun K hK => ?_)
                  obtain ⟨A8, c8, rfl⟩ := slice_of_own3 hv4
                  have h8 : Threes W4 W4.heap.size A8 (l ++ [(s1, s2, s3)]) := threes_of_own (xs := l ++ [(s1, s2, s3)]) (by have := hv4; simpa [flat3] using this) (by simp)
                  have H8 := Lib.hid (HMR.out W4 (hqw10.trans (hb4.mono hqw10.size)) A8 c8 h8)
                  gi_wp2_with (refine And.intro trivial ?_; gi_at_call 25; refine callsIn_wide.2 (H8.out.mono ?_); rintro e w11 ⟨⟨x11, y11, rfl, hne11⟩, hB11⟩)
                  refine hK _ _ (fun _ => hb4.trans (hB11.mono hb4.size)) ?_
                  clear hK K
                  (refine ordQ_li rfl rfl rfl (fun K hK => ?_); go_simp; refine hK _ ?_; clear hK K)
                  (refine ordQ_li rfl rfl rfl (fun K hK => ?_); go_simp; refine hK _ ?_; clear hK K)
                  (refine ordQ_li rfl rfl rfl (fun K hK => ?_); go_simp; refine hK _ ?_; clear hK K)
                  (refine ordQ_li rfl rfl rfl (fun K hK => ?_); go_simp; refine hK _ ?_; clear hK K)
                  (refine ordQ_li rfl rfl rfl (fun K hK => ?_); go_simp; refine hK _ ?_; clear hK K)
                  refine ordQ_fin ?_
                  go_wp2_with fail
                  go_meet
                  exact ⟨hb4.trans (hB11.mono hb4.size), x11, y11, rfl, rfl, by simpa using hne11⟩
            case rest =>
              obtain ⟨hB11, a33, b33, rfl, rfl, hb33⟩ := hcut
              have hw11 := hw10.trans (hB11.mono hzw10)
              clear r1 r2 r3 r4 r5 r6 r7 r8 r9 r10 r11 r12 r13
              obtain ⟨⟨r1, r2, r3, r4, r5, r6, r7, r8, r9, r10, r11, r12, r13⟩, hqw11, hzw11⟩ := HCE.out wc hw11
              have HR11 := Lib.hid hw11
              clear hw11
              go_wp2_with fail
              go_cut [35, 36] (fun s35 s36 wx => ∃ g5 g6 : Nat, s35 = .pointer (some ⟨g5, 0, none⟩) ∧ s36 = .pointer (some ⟨g6, 0, none⟩) ∧ g5 ≠ g6 ∧ wc.heap.size ≤ g5 ∧ wc.heap.size ≤ g6 ∧ Below wc.heap.size wc wx ∧ Hid (Box wx g5 [.slice Ap ps.length cp, .slice Al ls.length cl, I own, I wt, I ap, I pe]) ∧ Hid (Box wx g6 [.slice Ap ps.length cp, .slice Al ls.length cl, I own, I wt, I ap, I pe]))
              case first =>
                as_aux_lemma =>
                  refine (wpIn_wide (n := 9)).1 ?_
                  refine wpIn_region_jointL [some 234, some 235, some 35, some 36, none, none]
                    (Js 2 wc.heap.size wc [.slice Ap ps.length cp, .slice Al ls.length cl, I own, I wt, I ap, I pe] Z) rfl (by kernel_rfl) (by kernel_rfl) (by kernel_rfl) (fun _ d _ _ _ h => by cases d <;> exact h) (Js.start wc 2 _ (Nat.le_refl _) _ _) ?_ ?_
                  · refine ⟨?_, ?_, ?_, ?_, ?_, ?_, trivial⟩
                    · (intro val l vo W hli hd hJ K hK; have HK := Lib.hid hK; have HD := Lib.hid hd; have HJ := Lib.hid hJ; have HLI := Lib.hid hli; clear hK hd hJ hli; simp only [putD, Act.put, List.setIfInBounds_toArray, List.set_cons_succ, List.set_cons_zero, Nat.zero_add, Nat.reduceAdd] at HK ⊢; refine ⟨rfl, ?_⟩)
                      obtain ⟨⟨f1, f2, f3, f4, f5, f6, f7, f8, f9, f10, f11, f12, f13⟩, hqW, hzW⟩ := HCE.out W (HR11.out.trans (HJ.out.low.mono hzw11))
                      gi_wp2
                      exact HK.out _ _ (HJ.out.load 0 (by decide))
                    · (intro val l vo W hli hd hJ K hK; have HK := Lib.hid hK; have HD := Lib.hid hd; have HJ := Lib.hid hJ; have HLI := Lib.hid hli; clear hK hd hJ hli; simp only [putD, Act.put, List.setIfInBounds_toArray, List.set_cons_succ, List.set_cons_zero, Nat.zero_add, Nat.reduceAdd] at HK ⊢; refine ⟨rfl, ?_⟩)
                      obtain ⟨⟨f1, f2, f3, f4, f5, f6, f7, f8, f9, f10, f11, f12, f13⟩, hqW, hzW⟩ := HCE.out W (HR11.out.trans (HJ.out.low.mono hzw11))
                      gi_wp2
                      exact HK.out _ _ (HJ.out.load 1 (by decide))
                    · (intro val l vo W hli hd hJ K hK; have HK := Lib.hid hK; have HD := Lib.hid hd; have HJ := Lib.hid hJ; have HLI := Lib.hid hli; clear hK hd hJ hli; simp only [putD, Act.put, List.setIfInBounds_toArray, List.set_cons_succ, List.set_cons_zero, Nat.zero_add, Nat.reduceAdd] at HK ⊢; refine ⟨rfl, ?_⟩)
                      gi_wp2
                      refine HK.out _ _ ?_
                      rw [← HZ2.out]
                      exact HJ.out.alloc 0 (by decide) HLI.out 24
                    · (intro val l vo W hli hd hJ K hK; have HK := Lib.hid hK; have HD := Lib.hid hd; have HJ := Lib.hid hJ; have HLI := Lib.hid hli; clear hK hd hJ hli; simp only [putD, Act.put, List.setIfInBounds_toArray, List.set_cons_succ, List.set_cons_zero, Nat.zero_add, Nat.reduceAdd] at HK ⊢; refine ⟨rfl, ?_⟩)
                      gi_wp2
                      refine HK.out _ _ ?_
                      rw [← HZ2.out]
                      exact HJ.out.alloc 1 (by decide) HLI.out 24
                    · (intro val l vo W hli hd hJ K hK; have HK := Lib.hid hK; have HD := Lib.hid hd; have HJ := Lib.hid hJ; have HLI := Lib.hid hli; clear hK hd hJ hli; simp only [putD, Act.put, List.setIfInBounds_toArray, List.set_cons_succ, List.set_cons_zero, Nat.zero_add, Nat.reduceAdd] at HK ⊢; refine ⟨rfl, ?_⟩)
                      obtain ⟨hl1, hv1⟩ : l 2 = true ∧ val 2 = vo 2 := HD.out.1
                      obtain ⟨hl2, hv2⟩ : l 0 = true ∧ val 0 = vo 0 := HD.out.2.1
                      have hd2 := HJ.out.loads 0 (by decide) hl2
                      obtain ⟨g, hg1, hg2, hg3⟩ := HJ.out.boxes 0 (by decide) hl1
                      have hb : Box W g Z := by simpa [HLI.out] using hg3
                      rw [HZ.out] at hb
                      have e1 := hv1.trans hg1
                      have e2 := hv2.trans hd2
                      rw [e1, e2] at HK ⊢
                      obtain ⟨x0, z0⟩ := hb.at_ 0 _ rfl
                      obtain ⟨x1, z1⟩ := hb.at_ 1 _ rfl
                      obtain ⟨x2, z2⟩ := hb.at_ 2 _ rfl
                      obtain ⟨x3, z3⟩ := hb.at_ 3 _ rfl
                      obtain ⟨x4, z4⟩ := hb.at_ 4 _ rfl
                      obtain ⟨x5, z5⟩ := hb.at_ 5 _ rfl
                      have hbD := (((((hb.set 0 (.slice Ap ps.length cp)).set 1 (.slice Al ls.length cl)).set 2 (I own)).set 3 (I wt)).set 4 (I ap)).set 5 (I pe)
                      simp only [List.set_cons_zero, List.set_cons_succ] at hbD
                      have HBD := Lib.hid hbD
                      have HL1 := Lib.hid hl1
                      have HG1 := Lib.hid hg1
                      clear hbD hb hd2 hl2 hv2 hv1 e1 e2 hl1 hg1 hg3 HD
                      gi_wp2
                      exact HK.out undef _ (HJ.out.store 0 (by decide) HL1.out HG1.out undef (frm_set6 _ _ _ _ _ _ _ _) HBD.out)
                    · (intro val l vo W hli hd hJ K hK; have HK := Lib.hid hK; have HD := Lib.hid hd; have HJ := Lib.hid hJ; have HLI := Lib.hid hli; clear hK hd hJ hli; simp only [putD, Act.put, List.setIfInBounds_toArray, List.set_cons_succ, List.set_cons_zero, Nat.zero_add, Nat.reduceAdd] at HK ⊢; refine ⟨rfl, ?_⟩)
                      obtain ⟨hl1, hv1⟩ : l 3 = true ∧ val 3 = vo 3 := HD.out.1
                      obtain ⟨hl2, hv2⟩ : l 1 = true ∧ val 1 = vo 1 := HD.out.2.1
                      have hd2 := HJ.out.loads 1 (by decide) hl2
                      obtain ⟨g, hg1, hg2, hg3⟩ := HJ.out.boxes 1 (by decide) hl1
                      have hb : Box W g Z := by simpa [HLI.out] using hg3
                      rw [HZ.out] at hb
                      have e1 := hv1.trans hg1
                      have e2 := hv2.trans hd2
                      rw [e1, e2] at HK ⊢
                      obtain ⟨x0, z0⟩ := hb.at_ 0 _ rfl
                      obtain ⟨x1, z1⟩ := hb.at_ 1 _ rfl
                      obtain ⟨x2, z2⟩ := hb.at_ 2 _ rfl
                      obtain ⟨x3, z3⟩ := hb.at_ 3 _ rfl
                      obtain ⟨x4, z4⟩ := hb.at_ 4 _ rfl
                      obtain ⟨x5, z5⟩ := hb.at_ 5 _ rfl
                      have hbD := (((((hb.set 0 (.slice Ap ps.length cp)).set 1 (.slice Al ls.length cl)).set 2 (I own)).set 3 (I wt)).set 4 (I ap)).set 5 (I pe)
                      simp only [List.set_cons_zero, List.set_cons_succ] at hbD
                      have HBD := Lib.hid hbD
                      have HL1 := Lib.hid hl1
                      have HG1 := Lib.hid hg1
                      clear hbD hb hd2 hl2 hv2 hv1 e1 e2 hl1 hg1 hg3 HD
                      gi_wp2
                      exact HK.out undef _ (HJ.out.store 1 (by decide) HL1.out HG1.out undef (frm_set6 _ _ _ _ _ _ _ _) HBD.out)
                  · intro l val W hall hJ
                    obtain ⟨g5, e1, m1, b1⟩ := hJ.boxes 0 (by decide) (hall 2 (by decide))
                    obtain ⟨g6, e2, m2, b2⟩ := hJ.boxes 1 (by decide) (hall 3 (by decide))
                    have d12 := hJ.apart 0 1 (by decide) (by decide) (by decide) (hall 2 (by decide)) (hall 3 (by decide))
                    rw [if_pos (hall 4 (by decide))] at b1
                    rw [if_pos (hall 5 (by decide))] at b2
                    have f1 : val 2 = _ := e1
                    have f2 : val 3 = _ := e2
                    have hne : ∀ {a b : Nat}, (.pointer (some ⟨a, 0, none⟩) : Value) ≠ .pointer (some ⟨b, 0, none⟩) → a ≠ b := fun h e => h (by rw [e])
                    rw [e1, e2] at d12
                    have HFIN := Lib.hid (And.intro (hne d12) (And.intro m1 (And.intro m2 (And.intro hJ.low (And.intro (Lib.hid b1) (Lib.hid b2))))))
                    clear d12 m1 m2 b1 b2 e1 e2 hne hJ hall
                    simp only [putD, Act.put, List.setIfInBounds_toArray, List.set_cons_succ, List.set_cons_zero]
                    rw [f1, f2]
                    go_wp2_with fail
                    go_meet
                    exact ⟨g5, g6, rfl, rfl, HFIN.out⟩
              case rest =>
                obtain ⟨g5, g6, rfl, rfl, hd56, hm5, hm6, hB13, b5, b6⟩ := hcut
                have hw13 := HR11.out.trans (hB13.mono hzw11)
                clear r1 r2 r3 r4 r5 r6 r7 r8 r9 r10 r11 r12 r13 HR11 hqw11
                obtain ⟨_, hqw13, hzw13⟩ := HCE.out wc hw13
                have hz13 := hB13.size
                have hg5 : w.heap.size + 4 ≤ g5 := by omega
                have hg6 : w.heap.size + 4 ≤ g6 := by omega
                have hd65 : g6 ≠ g5 := fun h => hd56 h.symm
                go_upto_if 237 with (fail)
                go_cut [] (fun wx => Hid (Below (w.heap.size + 4) wa wx) ∧ Hid (Box wx g6 [.slice Ap ps.length cp, .slice Al ls.length cl, I own, I wt, I ap, I pe]))
                case first =>
                  as_aux_lemma =>
                    by_cases h100 : n < 100
                    · have tE0 : True := trivial
                      have tE1 : True := trivial
                      obtain ⟨m00, m01, m02, m03, m04, m05⟩ := (b5.out).six
                      have mz0 := ((b5.out).at_ 5 _ rfl).2
                      have hx0 := hw13.setCell (p := ⟨g5, 5, none⟩) hg5 (I (n))
                      obtain ⟨⟨n0_1, n0_2, n0_3, n0_4, n0_5, n0_6, n0_7, n0_8, n0_9, n0_10, n0_11, n0_12, n0_13⟩, hqx0, hzx0⟩ := HCE.out (wc.setCell ⟨g5, 5, none⟩ (I n)) hx0
                      have bx0 : Box (wc.setCell ⟨g5, 5, none⟩ (I n)) g5 [.slice Ap ps.length cp, .slice Al ls.length cl, I own, I wt, I ap, I (n)] := (b5.out).set 5 _
                      have by0 := (b6.out).far (p := ⟨g5, 5, none⟩) hd56 (I (n))
                      have hn6 := hn5 h100
                      go_wp2_with (first
                        | (go_at_call 32; have _t := tE0; refine (HIP.out _ _ _ hqx0 n0_1 n0_2 n0_3 n0_4 ⟨by omega, by omega⟩ n ⟨hn2, hn3⟩).mono ?_; rintro e z0 ⟨rfl, hC0⟩; clear tE0; have hy0 := hx0.trans (hC0.mono hzx0); obtain ⟨_, hqy0, hzy0⟩ := HCE.out z0 hy0; have bp0 := (bx0).call hC0; have bq0 := (by0).call hC0; obtain ⟨m10, m11, m12, m13, m14, m15⟩ := (bp0).six; have mz1 := ((bp0).at_ 5 _ rfl).2; have hx1 := hy0.setCell (p := ⟨g5, 5, none⟩) hg5 (I (n + 1)); obtain ⟨⟨n1_1, n1_2, n1_3, n1_4, n1_5, n1_6, n1_7, n1_8, n1_9, n1_10, n1_11, n1_12, n1_13⟩, hqx1, hzx1⟩ := HCE.out (z0.setCell ⟨g5, 5, none⟩ (I (n + 1))) hx1; have bx1 : Box (z0.setCell ⟨g5, 5, none⟩ (I (n + 1))) g5 [.slice Ap ps.length cp, .slice Al ls.length cl, I own, I wt, I ap, I (n + 1)] := (bp0).set 5 _; have by1 := (bq0).far (p := ⟨g5, 5, none⟩) hd56 (I (n + 1)))
                        | (go_at_call 32; have _t := tE1; refine (HIP.out _ _ _ hqx1 n1_1 n1_2 n1_3 n1_4 ⟨by omega, by omega⟩ (n + 1) ⟨by omega, by omega⟩).mono ?_; rintro e z1 ⟨rfl, hC1⟩; clear tE1; have hy1 := hx1.trans (hC1.mono hzx1); obtain ⟨_, hqy1, hzy1⟩ := HCE.out z1 hy1; have bp1 := (bx1).call hC1; have bq1 := (by1).call hC1)
                        | fail)
                      go_meet
                      exact ⟨Lib.hid (hy1), Lib.hid (bq1)⟩
                    · have tE0 : True := trivial
                      have tE1 : True := trivial
                      obtain ⟨m00, m01, m02, m03, m04, m05⟩ := (b5.out).six
                      have mz0 := ((b5.out).at_ 5 _ rfl).2
                      have hx0 := hw13.setCell (p := ⟨g5, 5, none⟩) hg5 (I (n))
                      obtain ⟨⟨n0_1, n0_2, n0_3, n0_4, n0_5, n0_6, n0_7, n0_8, n0_9, n0_10, n0_11, n0_12, n0_13⟩, hqx0, hzx0⟩ := HCE.out (wc.setCell ⟨g5, 5, none⟩ (I n)) hx0
                      have bx0 : Box (wc.setCell ⟨g5, 5, none⟩ (I n)) g5 [.slice Ap ps.length cp, .slice Al ls.length cl, I own, I wt, I ap, I (n)] := (b5.out).set 5 _
                      have by0 := (b6.out).far (p := ⟨g5, 5, none⟩) hd56 (I (n))
                      go_wp2_with (first
                        | (go_at_call 32; have _t := tE0; refine (HIP.out _ _ _ hqx0 n0_1 n0_2 n0_3 n0_4 ⟨by omega, by omega⟩ n ⟨hn2, hn3⟩).mono ?_; rintro e z0 ⟨rfl, hC0⟩; clear tE0; have hy0 := hx0.trans (hC0.mono hzx0); obtain ⟨_, hqy0, hzy0⟩ := HCE.out z0 hy0; have bp0 := (bx0).call hC0; have bq0 := (by0).call hC0; obtain ⟨m10, m11, m12, m13, m14, m15⟩ := (bp0).six; have mz1 := ((bp0).at_ 5 _ rfl).2; have hx1 := hy0.setCell (p := ⟨g5, 5, none⟩) hg5 (I (n + 1)); obtain ⟨⟨n1_1, n1_2, n1_3, n1_4, n1_5, n1_6, n1_7, n1_8, n1_9, n1_10, n1_11, n1_12, n1_13⟩, hqx1, hzx1⟩ := HCE.out (z0.setCell ⟨g5, 5, none⟩ (I (n + 1))) hx1; have bx1 : Box (z0.setCell ⟨g5, 5, none⟩ (I (n + 1))) g5 [.slice Ap ps.length cp, .slice Al ls.length cl, I own, I wt, I ap, I (n + 1)] := (bp0).set 5 _; have by1 := (bq0).far (p := ⟨g5, 5, none⟩) hd56 (I (n + 1)))
                        | fail)
                      go_meet
                      exact ⟨Lib.hid (hx1), Lib.hid (by1)⟩
                case rest =>
                  obtain ⟨hR14, b6'⟩ := hcut
                  have hw14 := hR14.out
                  obtain ⟨_, hqw14, hzw14⟩ := HCE.out wc hw14
                  by_cases h1a : 1 < a
                  · as_aux_lemma =>
                    have tE0 : True := trivial
                    have tE1 : True := trivial
                    obtain ⟨m00, m01, m02, m03, m04, m05⟩ := (b6'.out).six
                    have mz0 := ((b6'.out).at_ 4 _ rfl).2
                    have hx0 := hw14.setCell (p := ⟨g6, 4, none⟩) hg6 (I (a))
                    obtain ⟨⟨n0_1, n0_2, n0_3, n0_4, n0_5, n0_6, n0_7, n0_8, n0_9, n0_10, n0_11, n0_12, n0_13⟩, hqx0, hzx0⟩ := HCE.out (wc.setCell ⟨g6, 4, none⟩ (I a)) hx0
                    have bx0 : Box (wc.setCell ⟨g6, 4, none⟩ (I a)) g6 [.slice Ap ps.length cp, .slice Al ls.length cl, I own, I wt, I (a), I pe] := (b6'.out).set 4 _
                    have ha6 := ha5 h1a
                    go_wp2_with (first
                      | (go_at_call 32; have _t := tE0; refine (HIA.out _ _ _ hqx0 n0_1 n0_2 n0_3 n0_4 ⟨by omega, by omega⟩ a ⟨ha2, ha3⟩).mono ?_; rintro e z0 ⟨rfl, hC0⟩; clear tE0; have hy0 := hx0.trans (hC0.mono hzx0); obtain ⟨_, hqy0, hzy0⟩ := HCE.out z0 hy0; have bq0 := (bx0).call hC0; obtain ⟨m10, m11, m12, m13, m14, m15⟩ := (bq0).six; have mz1 := ((bq0).at_ 4 _ rfl).2; have hx1 := hy0.setCell (p := ⟨g6, 4, none⟩) hg6 (I (a - 1)); obtain ⟨⟨n1_1, n1_2, n1_3, n1_4, n1_5, n1_6, n1_7, n1_8, n1_9, n1_10, n1_11, n1_12, n1_13⟩, hqx1, hzx1⟩ := HCE.out (z0.setCell ⟨g6, 4, none⟩ (I (a - 1))) hx1; have bx1 : Box (z0.setCell ⟨g6, 4, none⟩ (I (a - 1))) g6 [.slice Ap ps.length cp, .slice Al ls.length cl, I own, I wt, I (a - 1), I pe] := (bq0).set 4 _)
                      | (go_at_call 32; have _t := tE1; refine (HIA.out _ _ _ hqx1 n1_1 n1_2 n1_3 n1_4 ⟨by omega, by omega⟩ (a - 1) ⟨by omega, by omega⟩).mono ?_; rintro e z1 ⟨rfl, hC1⟩; clear tE1; have hy1 := hx1.trans (hC1.mono hzx1); obtain ⟨_, hqy1, hzy1⟩ := HCE.out z1 hy1; have bq1 := (bx1).call hC1)
                      | (go_at_call 13; refine (alive_any _).mono ?_; rintro e w18 ⟨rfl, hB18⟩))
                    go_ret
                    exact ⟨rfl, hqy1.trans (hB18.mono hqy1.size)⟩
                  · as_aux_lemma =>
                    have tE0 : True := trivial
                    have tE1 : True := trivial
                    obtain ⟨m00, m01, m02, m03, m04, m05⟩ := (b6'.out).six
                    have mz0 := ((b6'.out).at_ 4 _ rfl).2
                    have hx0 := hw14.setCell (p := ⟨g6, 4, none⟩) hg6 (I (a))
                    obtain ⟨⟨n0_1, n0_2, n0_3, n0_4, n0_5, n0_6, n0_7, n0_8, n0_9, n0_10, n0_11, n0_12, n0_13⟩, hqx0, hzx0⟩ := HCE.out (wc.setCell ⟨g6, 4, none⟩ (I a)) hx0
                    have bx0 : Box (wc.setCell ⟨g6, 4, none⟩ (I a)) g6 [.slice Ap ps.length cp, .slice Al ls.length cl, I own, I wt, I (a), I pe] := (b6'.out).set 4 _
                    go_wp2_with (first
                      | (go_at_call 32; have _t := tE0; refine (HIA.out _ _ _ hqx0 n0_1 n0_2 n0_3 n0_4 ⟨by omega, by omega⟩ a ⟨ha2, ha3⟩).mono ?_; rintro e z0 ⟨rfl, hC0⟩; clear tE0; have hy0 := hx0.trans (hC0.mono hzx0); obtain ⟨_, hqy0, hzy0⟩ := HCE.out z0 hy0; have bq0 := (bx0).call hC0; obtain ⟨m10, m11, m12, m13, m14, m15⟩ := (bq0).six; have mz1 := ((bq0).at_ 4 _ rfl).2; have hx1 := hy0.setCell (p := ⟨g6, 4, none⟩) hg6 (I (a - 1)); obtain ⟨⟨n1_1, n1_2, n1_3, n1_4, n1_5, n1_6, n1_7, n1_8, n1_9, n1_10, n1_11, n1_12, n1_13⟩, hqx1, hzx1⟩ := HCE.out (z0.setCell ⟨g6, 4, none⟩ (I (a - 1))) hx1; have bx1 : Box (z0.setCell ⟨g6, 4, none⟩ (I (a - 1))) g6 [.slice Ap ps.length cp, .slice Al ls.length cl, I own, I wt, I (a - 1), I pe] := (bq0).set 4 _)
                      | (go_at_call 13; refine (alive_any _).mono ?_; rintro e w18 ⟨rfl, hB18⟩))
                    go_ret
                    exact ⟨rfl, hqx1.trans (hB18.mono hqx1.size)⟩
end Go.Proofs.Ytilmlgngnbokfaa
