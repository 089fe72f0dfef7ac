/- GroundOwns: the walk. -/
import Derived.Test.YtilmlgngnbokfaaFl
import Derived.Test.YtilmlgngnbokfaaG3
import Derived.Test.YtilmlgngnbokfaaEv
import Derived.Test.YtilmlgngnbokfaaX8
import Derived.Test.YtilmlgngnbokfaaAn
namespace Go.Proofs.Ytilmlgngnbokfaa
set_option linter.unusedVariables false
set_option linter.unusedSimpArgs false
open Go Go.RowKit

theorem most_v {g : Grd} {l : List (Int × Int × Int)} {d : Deck} {e : Ending} (h : MostPost g l d e) : ∃ a b, e = .returned (.tuple #[I a, I b]) := by
  rcases h with ⟨_, h⟩ | ⟨_, _, h⟩ | ⟨_, _, r, _, _, _, ⟨_, h⟩ | ⟨_, h⟩⟩ <;> exact ⟨_, _, h⟩
theorem apart_v {g : Grd} {l : List (Int × Int × Int)} {d : Deck} {e : Ending} (h : ApartPost g l d e) : ∃ a b, e = .returned (.tuple #[I a, I b]) := by
  rcases h with ⟨_, h⟩ | ⟨_, _, h⟩ | ⟨_, _, r, _, _, _, ⟨_, h⟩ | ⟨_, h⟩⟩ <;> exact ⟨_, _, h⟩
/-- What Crust answers, whatever the world. -/
theorem crust_v (g : Grd) (l : List (Int × Int × Int)) : ∃ (xs : List (Int × Int)) (m er : Int), xs.length ≤ 400 ∧ ∀ (A : Option Addr) (c : Nat) (B : Option Addr) (cb : Nat) (W : World), Pairs W W.heap.size A g.radar → Threes W W.heap.size B l → g.radar.length ≤ 9223372036854775807 → l.length ≤ 9223372036854775807 →
    Calls Try.prog 21 #[g.val A c, .slice B l.length cb] W fun e w' => (∃ A1 c1, e = .returned (.tuple #[.slice A1 xs.length c1, I m, I er]) ∧ xs.length ≤ c1 ∧ (0 < xs.length → ∃ gg, A1 = some ⟨gg, 0, none⟩ ∧ W.heap.size ≤ gg ∧ gg < w'.heap.size ∧ Crust2 w' gg xs)) ∧ Below W.heap.size W w' := by
  by_cases hok : GSOk g l
  · by_cases hw : 0 ≤ wrongI g.radar l
    · refine ⟨[], wrongI g.radar l, 6, by simp, fun A c B cb W h1 h2 h3 h4 => (Crust_any A c g B cb l W h1 h2 h3 h4).mono fun e w' h => ⟨⟨none, 0, ?_, by simp, fun h => by simp at h⟩, h.1⟩⟩
      rcases h.2 with ⟨h, _⟩ | ⟨_, _, h⟩ | ⟨_, h, _⟩
      · exact absurd hok h
      · exact h
      · omega
    · refine ⟨crustL g.radar l, g.radar.length, 0, by rw [crustL_length]; exact hok.snd.1.2, fun A c B cb W h1 h2 h3 h4 => (Crust_any A c g B cb l W h1 h2 h3 h4).mono fun e w' h => ⟨?_, h.1⟩⟩
      rcases h.2 with ⟨h, _⟩ | ⟨_, h, _⟩ | ⟨_, _, gg, cap, h, _, h4, h5, h6, h7⟩
      · exact absurd hok h
      · omega
      · rw [crustL_length]; exact ⟨_, cap, h, h4, fun _ => ⟨gg, rfl, h5, h6, h7⟩⟩
  · refine ⟨[], 0, 1, by simp, fun A c B cb W h1 h2 h3 h4 => (Crust_any A c g B cb l W h1 h2 h3 h4).mono fun e w' h => ⟨⟨none, 0, ?_, by simp, fun h => by simp at h⟩, h.1⟩⟩
    rcases h.2 with ⟨_, h⟩ | ⟨h, _⟩ | ⟨h, _⟩
    · exact h
    · exact absurd h hok
    · exact absurd h hok

theorem own_keep {w w' : World} {base n : Nat} {e : TypeId} {size : Nat} {v : Value} {xs : List Value} {S : Nat → Prop} (h : w.ownsRow base e size v n xs) (hF : Frm w.heap.size S w w') (hS : ∀ k, S k → k < base) : w'.ownsRow base e size v n xs := by
  refine ⟨h.1, ?_⟩
  rcases h.2 with h1 | ⟨g, cap, cur, h1, h2, h3, h4⟩
  · exact .inl h1
  · exact .inr ⟨g, cap, cur, h1, h2, (hF.block g (Array.getElem?_eq_some_iff.1 h3).1 (fun hs => by have := hS g hs; omega)).trans h3, h4⟩
theorem pairs_of_own {W : World} {base n c : Nat} {A : Option Addr} {xs : List (Int × Int)} {e : TypeId} (h : W.ownsRow base e 2 (.slice A n c) n (flat2 xs)) (hn : n = xs.length) : Pairs W W.heap.size A xs := fun h0 => by
  rcases h.2 with ⟨h1, h2⟩ | ⟨g, cap, cur, h1, _⟩
  · omega
  · injection h1 with hA _ _
    subst hA
    refine ⟨g, 0, rfl, (h.lt g rfl).2, fun k hk => ?_⟩
    obtain ⟨f1, f2⟩ := flat2_get xs k hk
    have e1 := h.cells (g := g) rfl _ _ f1
    have e2 := h.cells (g := g) rfl _ _ f2
    rw [Addr.add_lit] at e1 e2
    exact ⟨e1, e2⟩
theorem slice_of_own {W : World} {base n : Nat} {v : Value} {xs : List Value} {e : TypeId} {size : Nat} (h : W.ownsRow base e size v n xs) : ∃ A c, v = .slice A n c ∧ n ≤ 9223372036854775807 := by
  rcases h.2 with ⟨h1, h2⟩ | ⟨g, cap, cur, h1, _, _, h4, h5, _⟩
  · exact ⟨none, 0, by rw [h1, h2], by omega⟩
  · exact ⟨_, _, h1, by simp [maxLen] at h5; omega⟩
/-- Some pairs in a block of one's own. -/
def Row2 (W : World) (g n : Nat) : Prop := ∃ ys : List (Int × Int), ys.length = n ∧ Crust2 W g ys
theorem Row2.put {W : World} {g n : Nat} (h : Row2 W g n) (k : Nat) (x y : Int) : Row2 ((W.setCell ⟨g, k * 2, none⟩ (I x)).setCell ⟨g, k * 2 + 1, none⟩ (I y)) g n := by
  obtain ⟨ys, rfl, h⟩ := h
  refine ⟨ys.set k (x, y), by simp, fun j hj => ?_⟩
  have hj' : j < ys.length := by simpa using hj
  obtain ⟨a1, a2, a3, a4⟩ := h j hj'
  by_cases e : j = k
  · subst e
    rw [List.getElem_set_self]
    refine ⟨?_, ?_, ?_, ?_⟩
    · simp [go_sem, a1, a2, a3, a4]
    · simp [go_sem, a1, a2, a3, a4]
    · simpa [go_sem] using a3
    · simpa [go_sem] using a4
  · rw [List.getElem_set_ne (Ne.symm e)]
    refine ⟨?_, ?_, by simpa [go_sem] using a3, by simpa [go_sem] using a4⟩
    · rw [World.cell?_setCell_other, World.cell?_setCell_other]
      · exact a1
      all_goals (simp; try omega)
    · rw [World.cell?_setCell_other, World.cell?_setCell_other]
      · exact a2
      all_goals (simp; try omega)
theorem Row2.get {W : World} {g n : Nat} (h : Row2 W g n) (k : Nat) (hk : k < n) : ∃ x y, W.cell? ⟨g, k * 2, none⟩ = some (I x) ∧ W.cell? ⟨g, k * 2 + 1, none⟩ = some (I y) ∧ W.frozen? ⟨g, k * 2, none⟩ = false ∧ W.frozen? ⟨g, k * 2 + 1, none⟩ = false := by
  obtain ⟨ys, rfl, h⟩ := h
  exact ⟨_, _, (h k hk).1, (h k hk).2.1, (h k hk).2.2.1, (h k hk).2.2.2⟩
theorem Row2.alloc {W : World} {g n : Nat} (h : Row2 W g n) (hg : g < W.heap.size) (o : Obj) : Row2 (W.alloc o) g n := by
  obtain ⟨ys, rfl, h⟩ := h
  exact ⟨ys, rfl, h.below ((Below.refl W.heap.size W).alloc (Nat.le_refl _) o) hg⟩

set_option maxRecDepth 100000 in
set_option maxHeartbeats 3000000 in
theorem owns_any (A : Option Addr) (c : Nat) (g : Grd) (B : Option Addr) (cb : Nat) (l : List (Int × Int × Int)) (Ap Al : Option Addr) (cp cl : Nat) (d : Deck) (w : World) (ha : Args w A g B l Ap Al d) :
    Calls Try.prog 9 #[g.val A c, .slice B l.length cb, d.val Ap Al cp cl] w fun e w' => e = .returned (.bool true) ∧ Below w.heap.size w w' := by
  have hG : ∀ W, Below w.heap.size w W → Calls Try.prog 11 #[g.val A c, .slice B l.length cb, d.val Ap Al cp cl] W (RetFew (g.radar.length ≤ 410 ∧ l.length ≤ 70 ∧ d.posts.length ≤ 30 ∧ d.lengths.length ≤ 30) W) := fun W hB =>
    great_few A c g B cb l.length Ap Al cp cl d W (ha.below hB).hb ha.hbl
  obtain ⟨xs, m, er, hxl, hC⟩ := crust_v g l
  have hCr := fun W (hB : Below w.heap.size w W) => (hC A c B cb W (ha.below hB).hr (ha.below hB).hl ha.hrl ha.hll).mono (R' := fun e w' => ∃ A1 c1 gg, e = .returned (.tuple #[.slice A1 xs.length c1, I m, I er]) ∧ xs.length ≤ c1 ∧ W.heap.size ≤ gg ∧ (0 < xs.length → A1 = some ⟨gg, 0, none⟩ ∧ gg < w'.heap.size ∧ Crust2 w' gg xs) ∧ Below W.heap.size W w') fun e w' h => by
    obtain ⟨⟨A1, c1, h1, h2, h3⟩, h4⟩ := h
    by_cases h0 : 0 < xs.length
    · obtain ⟨gg, h5, h6, h7, h8⟩ := h3 h0
      exact ⟨A1, c1, gg, h1, h2, h6, fun _ => ⟨h5, h7, h8⟩, h4⟩
    · exact ⟨A1, c1, W.heap.size, h1, h2, Nat.le_refl _, fun h => absurd h h0, h4⟩
  have hMo := fun W (hB : Below w.heap.size w W) => (Most_any A c g B cb l Ap Al cp cl d W (ha.below hB)).mono (R' := fun e w' => (∃ a b, e = .returned (.tuple #[I a, I b])) ∧ Below W.heap.size W w') fun e w' h => ⟨most_v h.1, h.2⟩
  have hAp := fun W (hB : Below w.heap.size w W) => (Apart_any A c g B cb l Ap Al cp cl d W (ha.below hB)).mono (R' := fun e w' => (∃ a b, e = .returned (.tuple #[I a, I b])) ∧ Below W.heap.size W w') fun e w' h => ⟨apart_v h.1, h.2⟩
  generalize hFLdef : flatL g l d = FL
  have hFl := fun bd bg bl W (hB : Below w.heap.size w W) h1 h2 h3 h4 h5 h6 => (flat_any bd bg bl A c g B cb l Ap Al cp cl d W (ha.below hB) h1 h2 h3 h4 h5 h6).mono (R' := fun e w' => ∃ Av cv, e = .returned (.slice Av FL.length cv) ∧ FL.length ≤ 9223372036854775807 ∧ Ints w' w'.heap.size Av FL ∧ Below W.heap.size W w') fun e w' h => by
    obtain ⟨v, h1, h2, h3⟩ := h
    rw [hFLdef] at h2
    obtain ⟨Av, cv, rfl, hle⟩ := slice_of_own h2
    exact ⟨Av, cv, h1, hle, ints_of_own h2 rfl, h3⟩
  clear hC hFLdef
  have hS := fun A' c' B' c'' W h1 h2 (h3 : xs.length ≤ 9223372036854775807) => (spans_any A' c' xs B' c'' xs W h1 h2 h3 h3).mono (R' := fun e w' => e = .returned (.bool true) ∧ Below W.heap.size W w') (fun e w' ⟨b, h1, h2, h3⟩ => ⟨by rw [h1, show b = true from h2.2 rfl], h3⟩)
  obtain ⟨wd, fm, ra⟩ := g
  obtain ⟨ps, ls, own, wt, ap, pe⟩ := d
  simp only [Grd.val, Deck.val] at *
  obtain ⟨i0, hi0, hi1, hi2, hi3⟩ := info_parts info53
  have hu27 : Try.prog.underlying 27 = some (.slice 53) := Try.underlying27
  have HU := Lib.hid hu27; have HJ0 := Lib.hid hi0; have HJ1 := Lib.hid hi1; have HJ2 := Lib.hid hi2; have HJ3 := Lib.hid hi3
  clear hu27 hi0 hi1 hi2 hi3
  have HG := Lib.hid hG; have HCR := Lib.hid hCr; have HMO := Lib.hid hMo; have HAP := Lib.hid hAp; have HFL := Lib.hid hFl; have HS := Lib.hid hS
  clear hG hCr hMo hAp hFl hS ha
  have hce : ∀ W, Below (w.heap.size + 3) (((w.alloc (.cells #[I wd, I fm, .slice A ra.length c] 29)).alloc (.cells #[.slice B l.length cb] 45)).alloc (.cells #[.slice Ap ps.length cp, .slice Al ls.length cl, I own, I wt, I ap, I pe] 24)) W →
      (W.cell? ⟨w.heap.size, 0, none⟩ = some (I wd) ∧ W.cell? ⟨w.heap.size, 1, none⟩ = some (I fm) ∧ W.cell? ⟨w.heap.size, 2, none⟩ = some (.slice A ra.length c) ∧ W.cell? ⟨w.heap.size + 1, 0, none⟩ = some (.slice B l.length cb) ∧ W.cell? ⟨w.heap.size + 1 + 1, 0, none⟩ = some (.slice Ap ps.length cp) ∧ W.cell? ⟨w.heap.size + 1 + 1, 1, none⟩ = some (.slice Al ls.length cl) ∧ W.cell? ⟨w.heap.size + 1 + 1, 2, none⟩ = some (I own) ∧ W.cell? ⟨w.heap.size + 1 + 1, 3, none⟩ = some (I wt) ∧ W.cell? ⟨w.heap.size + 1 + 1, 4, none⟩ = some (I ap) ∧ W.cell? ⟨w.heap.size + 1 + 1, 5, none⟩ = some (I pe)) ∧ Below w.heap.size w W ∧ w.heap.size + 3 ≤ W.heap.size := fun W hB => by
    refine ⟨⟨?_, ?_, ?_, ?_, ?_, ?_, ?_, ?_, ?_, ?_⟩, ((((Below.refl _ w).alloc (Nat.le_refl _) _).alloc (by first | (simp; done) | (simp; omega)) _).alloc (by first | (simp; done) | (simp; omega)) _).trans (hB.mono (by omega)), by have := hB.size; simpa using this⟩
    iterate 3 (rw [hB.cell (p := ⟨w.heap.size, _, none⟩) (by simp)]; simp [go_sem])
    iterate 1 (rw [hB.cell (p := ⟨w.heap.size + 1, _, none⟩) (by simp)]; simp [go_sem])
    iterate 6 (rw [hB.cell (p := ⟨w.heap.size + 1 + 1, _, none⟩) (by simp)]; simp [go_sem])
  have HCE := Lib.hid hce
  clear hce
  have tok1 : True := trivial
  have tok2 : True := trivial
  go_enter Try.func9, Try.ntmps9
  go_wp2_with (first
    | (go_at_call 11; refine (HG.out _ (by (repeat' (first | assumption | exact Below.refl _ _ | refine Below.drew ?_ | refine below_drewN ?_ _ | refine Below.setCell ?_ (by first | omega | (simp; done) | (simp; omega)) _ | refine Below.alloc ?_ (by first | omega | (simp; done) | (simp; omega)) _ | refine Below.trans ?_ (Below.mono (by assumption) (by first | omega | (simp; done) | (simp; omega))))))).mono ?_; rintro e w1 ⟨_ | _, rfl, hfew, hB1⟩ <;> (have hw1 : Below (w.heap.size + 3) (((w.alloc (.cells #[I wd, I fm, .slice A ra.length c] 29)).alloc (.cells #[.slice B l.length cb] 45)).alloc (.cells #[.slice Ap ps.length cp, .slice Al ls.length cl, I own, I wt, I ap, I pe] 24)) w1 := (by simpa using hB1); obtain ⟨⟨a1, a2, a3, a4, a5, a6, a7, a8, a9, a10⟩, hqw1, hzw1⟩ := HCE.out w1 hw1; clear hB1))
    | (go_at_call 33; have _t := tok1; refine (HFL.out _ _ _ w1 hqw1 a5 a6 a3 a4 ⟨by omega, by omega, by omega⟩ (by first | exact hfew trivial | exact hfew rfl | exact hfew)).mono ?_; rintro e w2 ⟨Av, cv, rfl, hFll, hI2, hB2⟩; clear tok1; have HI2 := Lib.hid hI2; have hw2 := hw1.trans (hB2.mono hzw1); obtain ⟨⟨b1, b2, b3, b4, b5, b6, b7, b8, b9, b10⟩, hqw2, hzw2⟩ := HCE.out w2 hw2; clear hI2)
    | (go_at_call 21; have _t := tok2; refine (HCR.out w2 hqw2).mono ?_; rintro e w3 ⟨A1, c1, gg, rfl, hc1, hgg, hcr, hB3⟩; clear tok2; have HC1 := Lib.hid hcr; have hz3 := hB3.size; clear hcr)
    | (at_builtin; go_must (refine wpList_append_any _ rfl _ _ 27 rfl w3.heap.size 53 i0 (.agg #[.int .i64 0, .int .i64 0]) 2 16 HU.out HJ0.out HJ1.out HJ2.out HJ3.out rfl (by decide) _ _ _ rfl (World.ownsRow_made w3 #[] 0 (Nat.le_refl _) (Nat.zero_le _) (by simp)) A1 xs.length c1 (flat2 xs) rfl (by rw [flat2_length]) ?qa ?qb ?qc ?qd ?qe ?_))
    | (go_at_call 13; refine (alive_any _).mono ?_; rintro e w8 ⟨rfl, hB8⟩))
  case qa =>
    intro h0
    obtain ⟨h1, h2, h3⟩ := HC1.out h0
    subst h1
    refine ⟨_, rfl, pairs_flat (off := 0) fun k hk => ?_⟩
    obtain ⟨e1, e2, _⟩ := h3.below ((Below.refl w3.heap.size w3).alloc (Nat.le_refl _) _) h2 k hk
    rw [Nat.zero_add]
    exact ⟨e1, e2⟩
  case qb =>
    intro u hu
    obtain ⟨s, _, hs⟩ := List.mem_flatMap.1 hu
    simp at hs
    rcases hs with rfl | rfl <;> rfl
  case qc => simp [maxLen]; omega
  case qd => omega
  case qe => simp
  · intro v4 w4 hown4 hg4
    have hB4 : Below w3.heap.size w3 w4 := ((Below.refl _ w3).alloc (Nat.le_refl _) _).grown hg4 (by simp) (by intro k hk; simp [Value.ownBlock] at hk; omega)
    have hown4' : w4.ownsRow w3.heap.size 53 2 v4 xs.length (flat2 xs) := by simpa using hown4
    clear hown4 hg4
    obtain ⟨A4, c4, rfl, _⟩ := slice_of_own hown4'
    have HO4 := Lib.hid hown4'
    clear hown4'
    have hz4 := hB4.size
    have hw4 := hw2.trans ((hB3.trans (hB4.mono hz3)).mono hzw2)
    go_wp2
    go_loopw [39] (fun s39 wr => ∃ k : Nat, k ≤ xs.length ∧ s39 = I k ∧ Hid (Frm w4.heap.size (fun j => 0 < xs.length ∧ j = gg) w4 wr) ∧ Hid (0 < xs.length → Row2 wr gg xs.length)) (fun s39 _ => xs.length - (intOf s39).toNat)
    case atStart => exact ⟨0, Nat.zero_le _, rfl, Lib.hid (Frm.refl _ _ _), Lib.hid fun h0 => ⟨xs, rfl, (HC1.out h0).2.2.below hB4 (HC1.out h0).2.1⟩⟩
    case round =>
      obtain ⟨k, hk, rfl, hF, hR⟩ := hrel
      have hzr := hF.out.size
      by_cases hlt : k < xs.length
      · obtain ⟨hA1, hgz, _⟩ := HC1.out (by omega)
        subst hA1
        have hgr : gg < wr.heap.size := by omega
        have hne : gg ≠ wr.heap.size := by omega
        obtain ⟨x0, y0, q1, q2, q3, q4⟩ := (hR.out (by omega)).get k hlt
        have hput := ((hR.out (by omega)).put k (-1) (-1)).alloc (by simpa using hgr) (.cells #[I (-1), I (-1)] 53)
        have HPUT := Lib.hid hput
        have hfr : Hid (Frm w4.heap.size (fun j => 0 < xs.length ∧ j = gg) w4 (((wr.setCell ⟨gg, k * 2, none⟩ (I (-1))).setCell ⟨gg, k * 2 + 1, none⟩ (I (-1))).alloc (.cells #[I (-1), I (-1)] 53))) :=
          Lib.hid (((hF.out.setCell (.inr ⟨by omega, rfl⟩) _).setCell (.inr ⟨by omega, rfl⟩) _).alloc (by simpa using hzr) _)
        clear hput
        go_wp2_with (go_at_call 34; refine (span34 _ _ _).mono ?_; rintro e w' ⟨rfl, rfl⟩)
        go_roundw
        case rel => exact ⟨k + 1, by omega, by go_num, hfr, Lib.hid fun _ => HPUT.out⟩
        case measure => simp [intOf]; omega
      · have hBr : Below w2.heap.size w4 wr := hF.out.below (by omega) (fun j hj hs => by omega)
        have hOr : wr.ownsRow w3.heap.size 53 2 (.slice A4 xs.length c4) xs.length (flat2 xs) := own_keep HO4.out hF.out (fun j ⟨h0, hj⟩ => by have := (HC1.out h0).2.1; omega)
        have HPr : Hid (Pairs wr wr.heap.size A4 xs) := Lib.hid (pairs_of_own hOr rfl)
        have hwr := hw4.trans (hBr.mono hzw2)
        have HIr : Hid (Ints wr wr.heap.size Av FL) := Lib.hid ((HI2.out.below ((hB3.trans (hB4.mono hz3)).trans hBr)).more (by omega))
        obtain ⟨⟨cx1, cx2, cx3, cx4, cx5, cx6, cx7, cx8, cx9, cx10⟩, hqr, hzwr⟩ := HCE.out wr hwr
        clear hOr hF hR hBr HC1 HO4
        have tok3 : True := trivial
        have tok4 : True := trivial
        go_wp2_with (first
          | (go_at_call 27; refine (HMO.out wr hqr).mono ?_; rintro e w5 ⟨⟨u1, u2, rfl⟩, hB5⟩; have hw5 := hwr.trans (hB5.mono hzwr); obtain ⟨⟨d1, d2, d3, d4, d5, d6, d7, d8, d9, d10⟩, hqw5, hzw5⟩ := HCE.out w5 hw5)
          | (go_at_call 29; refine (HAP.out w5 hqw5).mono ?_; rintro e w6 ⟨⟨u3, u4, rfl⟩, hB6⟩; have hw6 := hw5.trans (hB6.mono hzw5); obtain ⟨⟨e1, e2, e3, e4, e5, e6, e7, e8, e9, e10⟩, hqw6, hzw6⟩ := HCE.out w6 hw6)
          | (go_at_call 21; have _t := tok3; refine (HCR.out w6 hqw6).mono ?_; rintro e w7 ⟨A2, c2, g2, rfl, hc2, hg2, hcr2, hB7⟩; clear tok3; have HP7 : Hid (Pairs w7 w7.heap.size A2 xs) := (Lib.hid (fun h0 => by obtain ⟨h1, h2, h3⟩ := hcr2 h0; rw [h1]; exact h3.pairs h2 h0)); clear hcr2; have hw7 := hw6.trans (hB7.mono hzw6); obtain ⟨⟨f1, f2, f3, f4, f5, f6, f7, f8, f9, f10⟩, hqw7, hzw7⟩ := HCE.out w7 hw7)
          | (go_at_call 33; have _t := tok4; refine (HFL.out _ _ _ w7 hqw7 f5 f6 f3 f4 ⟨by omega, by omega, by omega⟩ (by first | exact hfew trivial | exact hfew rfl | exact hfew)).mono ?_; rintro e w8 ⟨Av2, cv2, rfl, hFll2, hI8, hB8⟩; clear tok4; have HI8 := Lib.hid hI8; have hw8 := hw7.trans (hB8.mono hzw7); obtain ⟨⟨g1, g2, g3, g4, g5, g6, g7, g8, g9, g10⟩, hqw8, hzw8⟩ := HCE.out w8 hw8; clear hI8))
        have HIr8 : Hid (Ints w8 w8.heap.size Av FL) := Lib.hid ((HIr.out.below (((hB5.trans (hB6.mono hB5.size)).trans (hB7.mono (Nat.le_trans hB5.size hB6.size))).trans (hB8.mono (Nat.le_trans hB5.size (Nat.le_trans hB6.size hB7.size))))).more (by have := hB5.size; have := hB6.size; have := hB7.size; have := hB8.size; omega))
        have HPr8 : Hid (Pairs w8 w8.heap.size A4 xs) := Lib.hid ((HPr.out.below (((hB5.trans (hB6.mono hB5.size)).trans (hB7.mono (Nat.le_trans hB5.size hB6.size))).trans (hB8.mono (Nat.le_trans hB5.size (Nat.le_trans hB6.size hB7.size))))).more (by have := hB5.size; have := hB6.size; have := hB7.size; have := hB8.size; omega))
        have HP8 : Hid (Pairs w8 w8.heap.size A2 xs) := Lib.hid ((HP7.out.below hB8).more hB8.size)
        go_loopw [71] (fun s71 wq => ∃ k : Nat, k ≤ FL.length ∧ s71 = I k ∧ Below w8.heap.size w8 wq) (fun s71 _ => FL.length - (intOf s71).toNat)
        case atStart => exact ⟨0, Nat.zero_le _, rfl, Below.refl _ _⟩
        case round =>
          obtain ⟨k, hk, rfl, hBq⟩ := hrel
          have hzq := hBq.size
          by_cases hlt2 : k < FL.length
          · obtain ⟨p1, o1, rfl, hp1, hpc1⟩ := (HIr8.out.below hBq) (by omega)
            obtain ⟨p2, o2, rfl, hp2, hpc2⟩ := (HI8.out.below hBq) (by omega)
            have v1 := hpc1 k hlt2
            have v2 := hpc2 k hlt2
            generalize FL[k] = z at v1 v2
            clear hpc1 hpc2
            go_wp2
            go_quiet (fail)
            go_wp2
            go_roundw
            case rel => exact ⟨k + 1, by omega, by go_num, by (repeat' (first | assumption | exact Below.refl _ _ | refine Below.drew ?_ | refine below_drewN ?_ _ | refine Below.setCell ?_ (by first | omega | (simp; done) | (simp; omega)) _ | refine Below.alloc ?_ (by first | omega | (simp; done) | (simp; omega)) _ | refine Below.trans ?_ (Below.mono (by assumption) (by first | omega | (simp; done) | (simp; omega)))))⟩
            case measure => simp [intOf]; omega
          · have hqq := hqw8.trans (hBq.mono hqw8.size)
            go_wp2_with (first
              | (go_at_call 24; refine (HS.out _ _ _ _ _ ((HP8.out.below hBq).more hzq) ((HPr8.out.below hBq).more hzq) (by omega)).mono ?_; rintro e w9 ⟨rfl, hB9⟩; have hq9 := hqq.trans (hB9.mono hqq.size))
              | (go_at_call 13; refine (alive_any _).mono ?_; rintro e w10 ⟨rfl, hB10⟩))
            go_ret
            exact ⟨rfl, hq9.trans (hB10.mono hq9.size)⟩
  · go_ret
    exact ⟨rfl, hqw1.trans (hB8.mono hqw1.size)⟩
end Go.Proofs.Ytilmlgngnbokfaa
