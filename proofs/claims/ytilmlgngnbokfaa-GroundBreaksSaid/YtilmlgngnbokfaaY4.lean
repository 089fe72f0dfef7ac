/- The document's Most, Apart. -/
import Derived.Test.YtilmlgngnbokfaaY3
namespace Go.Proofs.Ytilmlgngnbokfaa
set_option linter.unusedVariables false
set_option linter.unusedSimpArgs false
open Go.RowKit

/-- A deck in a block of its own. -/
def DBox (W : World) (b : Nat) (Ap Al : Option Addr) (cp cl : Nat) (d : Deck) : Prop :=
  (W.cell? ⟨b, 0, none⟩ = some (.slice Ap d.posts.length cp) ∧ W.cell? ⟨b, 1, none⟩ = some (.slice Al d.lengths.length cl) ∧ W.cell? ⟨b, 2, none⟩ = some (I d.own) ∧ W.cell? ⟨b, 3, none⟩ = some (I d.weight) ∧ W.cell? ⟨b, 4, none⟩ = some (I d.apart) ∧ W.cell? ⟨b, 5, none⟩ = some (I d.persons)) ∧
  ∀ k, k < 6 → W.frozen? ⟨b, k, none⟩ = false
section
variable {W W' : World} {b : Nat} {Ap Al : Option Addr} {cp cl : Nat} {d : Deck}
theorem DBox.below {B : Nat} (h : DBox W b Ap Al cp cl d) (hB : Below B W W') (hb : b < B) : DBox W' b Ap Al cp cl d := by
  obtain ⟨⟨h0, h1, h2, h3, h4, h5⟩, hf⟩ := h
  exact ⟨⟨(hB.cell (p := ⟨b, _, none⟩) hb).trans h0, (hB.cell (p := ⟨b, _, none⟩) hb).trans h1, (hB.cell (p := ⟨b, _, none⟩) hb).trans h2, (hB.cell (p := ⟨b, _, none⟩) hb).trans h3, (hB.cell (p := ⟨b, _, none⟩) hb).trans h4, (hB.cell (p := ⟨b, _, none⟩) hb).trans h5⟩,
    fun k hk => (hB.frozen (p := ⟨b, k, none⟩) hb).trans (hf k hk)⟩
theorem DBox.pe (h : DBox W b Ap Al cp cl d) (n : Int) : DBox (W.setCell ⟨b, 5, none⟩ (I n)) b Ap Al cp cl (d.pe n) := by
  obtain ⟨⟨h0, h1, h2, h3, h4, h5⟩, hf⟩ := h
  refine ⟨⟨?_, ?_, ?_, ?_, ?_, ?_⟩, fun k hk => by simpa [go_sem] using hf k hk⟩ <;> simp [go_sem, Deck.pe, h0, h1, h2, h3, h4, h5]
theorem DBox.ap (h : DBox W b Ap Al cp cl d) (n : Int) : DBox (W.setCell ⟨b, 4, none⟩ (I n)) b Ap Al cp cl (d.ap n) := by
  obtain ⟨⟨h0, h1, h2, h3, h4, h5⟩, hf⟩ := h
  refine ⟨⟨?_, ?_, ?_, ?_, ?_, ?_⟩, fun k hk => by simpa [go_sem] using hf k hk⟩ <;> simp [go_sem, Deck.ap, h0, h1, h2, h3, h4, h5]
end
theorem Frm.crust {N : Nat} {S : Nat → Prop} {a w : World} {gg : Nat} {cr : List (Int × Int)} (hF : Frm N S a w) (h : Crust2 a gg cr) (hg : gg < N) (hs : ¬ S gg) : Crust2 w gg cr := fun k hk =>
  ⟨(hF.cell hg hs).trans (h k hk).1, (hF.cell hg hs).trans (h k hk).2.1, (hF.frozen hg hs).trans (h k hk).2.2.1, (hF.frozen hg hs).trans (h k hk).2.2.2⟩

set_option maxRecDepth 100000 in
set_option maxHeartbeats 4000000 in
theorem refMost_any (A : Option Addr) (c : Nat) (g : Grd) (B : Option Addr) (cb : Nat) (l : List (Int × Int × Int)) (Ap Al : Option Addr) (cp cl : Nat) (d : Deck) (w : World) (ha : Args w A g B l Ap Al d) :
    Calls Try.prog 28 #[g.val A c, .slice B l.length cb, d.val Ap Al cp cl] w fun e w' => MostPost g l d e ∧ Below w.heap.size w w' := by
  have hE : ∀ W, Below w.heap.size w W → Calls Try.prog 50 #[g.val A c, .slice B l.length cb, d.val Ap Al cp cl] W (ErrPost g l d W) := fun W hB =>
    have h := ha.below hB
    errors_any A c g B cb l Ap Al cp cl d W h.hr h.hl h.hrl h.hll h.hp h.hb h.hpl h.hbl
  have hK : AllOk g l d → ∀ (n : Int), 0 ≤ n ∧ n ≤ 100 → ∀ W gg cap, Below w.heap.size w W → gg < W.heap.size → Crust2 W gg (crustL g.radar l) → Calls Try.prog 51 #[g.val A c, .slice (some ⟨gg, 0, none⟩) g.radar.length cap, (d.pe n).val Ap Al cp cl] W fun e w' =>
      ((bearsB (d.pe n) (crustL g.radar l) g.firm = true ∧ ∃ m : Int, m < 0 ∧ e = .returned (I m)) ∨ (bearsB (d.pe n) (crustL g.radar l) g.firm = false ∧ ∃ m : Int, 0 ≤ m ∧ e = .returned (I m))) ∧ Below W.heap.size W w' := fun h n hn W gg cap hB hgg hC =>
    (brk_call (A := A) (c := c) (cp := cp) (cl := cl) (cap := cap) (w := w) h (Deck.pe_ok h.2 hn) (⟨(ha.below hB).hp, (ha.below hB).hb⟩ : DeckAt W Ap Al (d.pe n)) hgg hC).mono fun e w' ⟨he, hB'⟩ => ⟨by
      unfold bearsB
      by_cases hneg : brkI (d.pe n) (crustL g.radar l) g.firm < 0
      · exact .inl ⟨decide_eq_true hneg, _, hneg, he⟩
      · exact .inr ⟨decide_eq_false hneg, _, by omega, he⟩, hB'⟩
  generalize hP : MostPost g l d = P
  have HP := Lib.hid hP
  have HK := Lib.hid hK
  clear hP ha hK
  have hdv : d.val Ap Al cp cl = .agg #[.slice Ap d.posts.length cp, .slice Al d.lengths.length cl, I d.own, I d.weight, I d.apart, I d.persons] := rfl
  have hgv : g.val A c = .agg #[I g.wide, I g.firm, .slice A g.radar.length c] := rfl
  obtain ⟨wd, fm, ra⟩ := g
  generalize hd0 : d = d0 at *
  obtain ⟨ps, ls, own, wt, ap, pe⟩ := d
  subst hd0
  clear hdv hgv
  simp only [Grd.val, Deck.val, Deck.pe] at hE HK ⊢
  have hce : ∀ W, Below (w.heap.size + 2) ((w.alloc (.cells #[I wd, I fm, .slice A ra.length c] 29)).alloc (.cells #[.slice Ap ps.length cp, .slice Al ls.length cl, I own, I wt, I ap, I pe] 24)) W →
      (W.cell? ⟨w.heap.size, 0, none⟩ = some (I wd) ∧ W.cell? ⟨w.heap.size, 1, none⟩ = some (I fm) ∧ W.cell? ⟨w.heap.size, 2, none⟩ = some (.slice A ra.length c) ∧ W.cell? ⟨w.heap.size + 1, 0, none⟩ = some (.slice Ap ps.length cp) ∧ W.cell? ⟨w.heap.size + 1, 1, none⟩ = some (.slice Al ls.length cl) ∧ W.cell? ⟨w.heap.size + 1, 2, none⟩ = some (I own) ∧ W.cell? ⟨w.heap.size + 1, 3, none⟩ = some (I wt) ∧ W.cell? ⟨w.heap.size + 1, 4, none⟩ = some (I ap) ∧ W.cell? ⟨w.heap.size + 1, 5, none⟩ = some (I pe)) ∧ Below w.heap.size w W ∧ w.heap.size + 2 ≤ W.heap.size := fun W hB => by
    refine ⟨⟨?_, ?_, ?_, ?_, ?_, ?_, ?_, ?_, ?_⟩, (((Below.refl _ w).alloc (Nat.le_refl _) _).alloc (by simp) _).trans (hB.mono (by omega)), by have := hB.size; simpa using this⟩
    iterate 3 (rw [hB.cell (p := ⟨w.heap.size, _, none⟩) (by simp)]; simp [go_sem])
    iterate 6 (rw [hB.cell (p := ⟨w.heap.size + 1, _, none⟩) (by simp)]; simp [go_sem])
  have HCE := Lib.hid hce
  clear hce
  go_enter Try.func28, Try.ntmps28
  go_wp2_with ((go_at_call 50; refine (hE _ (by (repeat' (first | assumption | exact Below.refl _ _ | refine Below.drew ?_ | refine below_drewN ?_ _ | refine Below.setCell ?_ (by first | omega | (simp; done) | (simp; omega)) _ | refine Below.alloc ?_ (by first | omega | (simp; done) | (simp; omega)) _ | refine Below.trans ?_ (Below.mono (by assumption) (by first | omega | (simp; done) | (simp; omega))))))).mono ?_; rintro e w1 ⟨hB, ⟨hn, rfl⟩ | ⟨hn, hw, rfl⟩ | ⟨hn, hw, gg, cap, rfl, hcap, hcap2, hgg, hgg2, hCr⟩⟩ <;> (have hw1 : Below (w.heap.size + 2) ((w.alloc (.cells #[I wd, I fm, .slice A ra.length c] 29)).alloc (.cells #[.slice Ap ps.length cp, .slice Al ls.length cl, I own, I wt, I ap, I pe] 24)) w1 := (by simpa using hB)) <;> obtain ⟨⟨a1, a2, a3, a4, a5, a6, a7, a8, a9⟩, hq1, hz1⟩ := HCE.out w1 hw1))
  · go_ret2
    exact ⟨by rw [← HP.out]; exact .inl ⟨hn, rfl⟩, hq1⟩
  · go_ret2
    exact ⟨by rw [← HP.out]; exact .inr (.inl ⟨hn, hw, rfl⟩), hq1⟩
  have hgg3 : w.heap.size + 2 ≤ gg := by simpa using hgg
  have HCR := Lib.hid hCr
  have hfz : ∀ k, k < 6 → w1.frozen? ⟨w.heap.size + 1, k, none⟩ = false := fun k hk => by rw [hw1.frozen (p := ⟨w.heap.size + 1, k, none⟩) (by simp)]; simp [go_sem]
  have HD1 : Hid (DBox w1 (w.heap.size + 1) Ap Al cp cl ⟨ps, ls, own, wt, ap, pe⟩) := Lib.hid ⟨⟨a4, a5, a6, a7, a8, a9⟩, hfz⟩
  have HN := Lib.hid hn
  have HW := Lib.hid hw
  clear hCr hfz hn hw
  go_loopw [10] (fun s10 wr => ∃ (n : Nat) (pv : Int), 0 ≤ n ∧ n ≤ 101 ∧ s10 = I n ∧ Frm w1.heap.size (· = w.heap.size + 1) w1 wr ∧ Hid (DBox wr (w.heap.size + 1) Ap Al cp cl ⟨ps, ls, own, wt, ap, pv⟩) ∧ Hid (∀ m : Nat, m < n → bearsB ⟨ps, ls, own, wt, ap, m⟩ (crustL ra l) fm = true)) (fun s10 _ => 101 - (intOf s10).toNat)
  case atStart => exact ⟨0, pe, by omega, by omega, rfl, Frm.refl _ _ _, HD1, Lib.hid fun m h => by omega⟩
  case round =>
    obtain ⟨n, pv, hn0, hn, rfl, hF, hD, hall⟩ := hrel
    obtain ⟨⟨c0, c1, c2, c3, c4, c5⟩, hfz⟩ := hD.out
    have f5 := hfz 5 (by omega)
    have g0 := (hF.cell (b := w.heap.size) (o := 0) (by omega) (by omega)).trans a1
    have g1 := (hF.cell (b := w.heap.size) (o := 1) (by omega) (by omega)).trans a2
    have g2 := (hF.cell (b := w.heap.size) (o := 2) (by omega) (by omega)).trans a3
    simp only at c0 c1 c2 c3 c4 c5
    clear hfz
    have hz := hF.size
    by_cases hlt : n < 101
    · have hF2 := hF.setCell (p := ⟨w.heap.size + 1, 5, none⟩) (Or.inr rfl) (I n)
      have hD2 := hD.out.pe n
      have hBw : Below w.heap.size w (wr.setCell ⟨w.heap.size + 1, 5, none⟩ (I n)) := hq1.trans (hF2.below (by omega) (by omega))
      have hcall := HK.out HN.out n (by omega) _ gg cap hBw (by simp; omega) (hF2.crust HCR.out hgg2 (by omega))
      have HCALL := Lib.hid hcall
      have HD2 := Lib.hid hD2
      clear hcall hD2
      rcases (show n = 0 ∨ ((n : Int) == 0) = false ∧ 1 ≤ n by by_cases h : n = 0 <;> simp [h]; omega) with rfl | ⟨h0, h01⟩
      all_goals
        go_wp2_with (go_at_call 51; refine HCALL.out.mono ?_; rintro e w2 ⟨⟨hbt, m, hm, rfl⟩ | ⟨hbf, m, hm, rfl⟩, hB2⟩)
      all_goals have hF3 := hF2.then_ hB2 (by simp; omega)
      all_goals have hD3 := HD2.out.below hB2 (by simp; omega)
      · clear c0 c1 c2 c3 c4 c5
        go_roundw
        case rel => exact ⟨0 + 1, _, by omega, by omega, by go_num, hF3, Lib.hid hD3, Lib.hid fun m h => by
          by_cases e : m = 0
          · subst e; exact hbt
          · exact hall.out m (by omega)⟩
        case measure => simp [intOf]; try omega
      · go_ret2
        exact ⟨by rw [← HP.out]; exact .inr (.inr ⟨HN.out, HW.out, 0, by omega, fun h => by omega, fun _ => hbf, .inl ⟨rfl, rfl⟩⟩), hq1.trans (hF3.below (by omega) (by omega))⟩
      · clear c0 c1 c2 c3 c4 c5
        go_roundw
        case rel => exact ⟨n + 1, _, by omega, by omega, by go_num, hF3, Lib.hid hD3, Lib.hid fun m h => by
          by_cases e : m = n
          · subst e; exact hbt
          · exact hall.out m (by omega)⟩
        case measure => simp [intOf]; try omega
      · go_ret2
        exact ⟨by rw [← HP.out]; exact .inr (.inr ⟨HN.out, HW.out, n, by omega, fun h => hall.out (n - 1) (by omega), fun _ => hbf, .inr ⟨by omega, rfl⟩⟩), hq1.trans (hF3.below (by omega) (by omega))⟩
    · obtain rfl : n = 101 := by omega
      have hlow := hq1.trans (hF.below (B := w.heap.size) (by omega) (by omega))
      go_wp2
      go_ret2
      exact ⟨by rw [← HP.out]; exact .inr (.inr ⟨HN.out, HW.out, 101, by omega, fun h => hall.out 100 (by omega), fun h => by omega, .inr ⟨by omega, rfl⟩⟩), hlow⟩

set_option maxRecDepth 100000 in
set_option maxHeartbeats 4000000 in
theorem refApart_any (A : Option Addr) (c : Nat) (g : Grd) (B : Option Addr) (cb : Nat) (l : List (Int × Int × Int)) (Ap Al : Option Addr) (cp cl : Nat) (d : Deck) (w : World) (ha : Args w A g B l Ap Al d) :
    Calls Try.prog 30 #[g.val A c, .slice B l.length cb, d.val Ap Al cp cl] w fun e w' => ApartPost g l d e ∧ Below w.heap.size w w' := by
  have hE : ∀ W, Below w.heap.size w W → Calls Try.prog 50 #[g.val A c, .slice B l.length cb, d.val Ap Al cp cl] W (ErrPost g l d W) := fun W hB =>
    have h := ha.below hB
    errors_any A c g B cb l Ap Al cp cl d W h.hr h.hl h.hrl h.hll h.hp h.hb h.hpl h.hbl
  have hK : AllOk g l d → ∀ (n : Int), 1 ≤ n ∧ n ≤ 400 → ∀ W gg cap, Below w.heap.size w W → gg < W.heap.size → Crust2 W gg (crustL g.radar l) → Calls Try.prog 51 #[g.val A c, .slice (some ⟨gg, 0, none⟩) g.radar.length cap, (d.ap n).val Ap Al cp cl] W fun e w' =>
      ((bearsB (d.ap n) (crustL g.radar l) g.firm = true ∧ ∃ m : Int, m < 0 ∧ e = .returned (I m)) ∨ (bearsB (d.ap n) (crustL g.radar l) g.firm = false ∧ ∃ m : Int, 0 ≤ m ∧ e = .returned (I m))) ∧ Below W.heap.size W w' := fun h n hn W gg cap hB hgg hC =>
    (brk_call (A := A) (c := c) (cp := cp) (cl := cl) (cap := cap) (w := w) h (Deck.ap_ok h.2 hn) (⟨(ha.below hB).hp, (ha.below hB).hb⟩ : DeckAt W Ap Al (d.ap n)) hgg hC).mono fun e w' ⟨he, hB'⟩ => ⟨by
      unfold bearsB
      by_cases hneg : brkI (d.ap n) (crustL g.radar l) g.firm < 0
      · exact .inl ⟨decide_eq_true hneg, _, hneg, he⟩
      · exact .inr ⟨decide_eq_false hneg, _, by omega, he⟩, hB'⟩
  generalize hP : ApartPost g l d = P
  have HP := Lib.hid hP
  have HK := Lib.hid hK
  clear hP ha hK
  have hdv : d.val Ap Al cp cl = .agg #[.slice Ap d.posts.length cp, .slice Al d.lengths.length cl, I d.own, I d.weight, I d.apart, I d.persons] := rfl
  have hgv : g.val A c = .agg #[I g.wide, I g.firm, .slice A g.radar.length c] := rfl
  obtain ⟨wd, fm, ra⟩ := g
  generalize hd0 : d = d0 at *
  obtain ⟨ps, ls, own, wt, ap, pe⟩ := d
  subst hd0
  clear hdv hgv
  simp only [Grd.val, Deck.val, Deck.ap] at hE HK ⊢
  have hce : ∀ W, Below (w.heap.size + 2) ((w.alloc (.cells #[I wd, I fm, .slice A ra.length c] 29)).alloc (.cells #[.slice Ap ps.length cp, .slice Al ls.length cl, I own, I wt, I ap, I pe] 24)) W →
      (W.cell? ⟨w.heap.size, 0, none⟩ = some (I wd) ∧ W.cell? ⟨w.heap.size, 1, none⟩ = some (I fm) ∧ W.cell? ⟨w.heap.size, 2, none⟩ = some (.slice A ra.length c) ∧ W.cell? ⟨w.heap.size + 1, 0, none⟩ = some (.slice Ap ps.length cp) ∧ W.cell? ⟨w.heap.size + 1, 1, none⟩ = some (.slice Al ls.length cl) ∧ W.cell? ⟨w.heap.size + 1, 2, none⟩ = some (I own) ∧ W.cell? ⟨w.heap.size + 1, 3, none⟩ = some (I wt) ∧ W.cell? ⟨w.heap.size + 1, 4, none⟩ = some (I ap) ∧ W.cell? ⟨w.heap.size + 1, 5, none⟩ = some (I pe)) ∧ Below w.heap.size w W ∧ w.heap.size + 2 ≤ W.heap.size := fun W hB => by
    refine ⟨⟨?_, ?_, ?_, ?_, ?_, ?_, ?_, ?_, ?_⟩, (((Below.refl _ w).alloc (Nat.le_refl _) _).alloc (by simp) _).trans (hB.mono (by omega)), by have := hB.size; simpa using this⟩
    iterate 3 (rw [hB.cell (p := ⟨w.heap.size, _, none⟩) (by simp)]; simp [go_sem])
    iterate 6 (rw [hB.cell (p := ⟨w.heap.size + 1, _, none⟩) (by simp)]; simp [go_sem])
  have HCE := Lib.hid hce
  clear hce
  go_enter Try.func30, Try.ntmps30
  go_wp2_with ((go_at_call 50; refine (hE _ (by (repeat' (first | assumption | exact Below.refl _ _ | refine Below.drew ?_ | refine below_drewN ?_ _ | refine Below.setCell ?_ (by first | omega | (simp; done) | (simp; omega)) _ | refine Below.alloc ?_ (by first | omega | (simp; done) | (simp; omega)) _ | refine Below.trans ?_ (Below.mono (by assumption) (by first | omega | (simp; done) | (simp; omega))))))).mono ?_; rintro e w1 ⟨hB, ⟨hn, rfl⟩ | ⟨hn, hw, rfl⟩ | ⟨hn, hw, gg, cap, rfl, hcap, hcap2, hgg, hgg2, hCr⟩⟩ <;> (have hw1 : Below (w.heap.size + 2) ((w.alloc (.cells #[I wd, I fm, .slice A ra.length c] 29)).alloc (.cells #[.slice Ap ps.length cp, .slice Al ls.length cl, I own, I wt, I ap, I pe] 24)) w1 := (by simpa using hB)) <;> obtain ⟨⟨a1, a2, a3, a4, a5, a6, a7, a8, a9⟩, hq1, hz1⟩ := HCE.out w1 hw1))
  · go_ret2
    exact ⟨by rw [← HP.out]; exact .inl ⟨hn, rfl⟩, hq1⟩
  · go_ret2
    exact ⟨by rw [← HP.out]; exact .inr (.inl ⟨hn, hw, rfl⟩), hq1⟩
  have hgg3 : w.heap.size + 2 ≤ gg := by simpa using hgg
  have HCR := Lib.hid hCr
  have hfz : ∀ k, k < 6 → w1.frozen? ⟨w.heap.size + 1, k, none⟩ = false := fun k hk => by rw [hw1.frozen (p := ⟨w.heap.size + 1, k, none⟩) (by simp)]; simp [go_sem]
  have HD1 : Hid (DBox w1 (w.heap.size + 1) Ap Al cp cl ⟨ps, ls, own, wt, ap, pe⟩) := Lib.hid ⟨⟨a4, a5, a6, a7, a8, a9⟩, hfz⟩
  have HN := Lib.hid hn
  have HW := Lib.hid hw
  clear hCr hfz hn hw
  go_loopw [10] (fun s10 wr => ∃ (n : Nat) (pv : Int), 1 ≤ n ∧ n ≤ 401 ∧ s10 = I n ∧ Frm w1.heap.size (· = w.heap.size + 1) w1 wr ∧ Hid (DBox wr (w.heap.size + 1) Ap Al cp cl ⟨ps, ls, own, wt, pv, pe⟩) ∧ Hid (∀ m : Nat, 1 ≤ m → m < n → bearsB ⟨ps, ls, own, wt, m, pe⟩ (crustL ra l) fm = false)) (fun s10 _ => 401 - (intOf s10).toNat)
  case atStart => exact ⟨1, ap, by omega, by omega, rfl, Frm.refl _ _ _, HD1, Lib.hid fun m h1 h => by omega⟩
  case round =>
    obtain ⟨n, pv, hn0, hn, rfl, hF, hD, hall⟩ := hrel
    obtain ⟨⟨c0, c1, c2, c3, c4, c5⟩, hfz⟩ := hD.out
    have f5 := hfz 4 (by omega)
    have g0 := (hF.cell (b := w.heap.size) (o := 0) (by omega) (by omega)).trans a1
    have g1 := (hF.cell (b := w.heap.size) (o := 1) (by omega) (by omega)).trans a2
    have g2 := (hF.cell (b := w.heap.size) (o := 2) (by omega) (by omega)).trans a3
    simp only at c0 c1 c2 c3 c4 c5
    clear hfz
    have hz := hF.size
    by_cases hlt : n < 401
    · have hF2 := hF.setCell (p := ⟨w.heap.size + 1, 4, none⟩) (Or.inr rfl) (I n)
      have hD2 := hD.out.ap n
      have hBw : Below w.heap.size w (wr.setCell ⟨w.heap.size + 1, 4, none⟩ (I n)) := hq1.trans (hF2.below (by omega) (by omega))
      have hcall := HK.out HN.out n (by omega) _ gg cap hBw (by simp; omega) (hF2.crust HCR.out hgg2 (by omega))
      have HCALL := Lib.hid hcall
      have HD2 := Lib.hid hD2
      clear hcall hD2
      skip
      all_goals
        go_wp2_with (go_at_call 51; refine HCALL.out.mono ?_; rintro e w2 ⟨⟨hbt, m, hm, rfl⟩ | ⟨hbf, m, hm, rfl⟩, hB2⟩)
      all_goals have hF3 := hF2.then_ hB2 (by simp; omega)
      all_goals have hD3 := HD2.out.below hB2 (by simp; omega)
      · go_ret2
        exact ⟨by rw [← HP.out]; exact .inr (.inr ⟨HN.out, HW.out, n - 1, by omega, fun h => by have := hall.out (n - 1) (by omega) (by omega); rw [show (((n - 1 - 1 : Nat) : Int) + 1) = ((n - 1 : Nat) : Int) by omega]; exact this, fun _ => by rw [show (((n - 1 : Nat) : Int) + 1) = (n : Int) by omega]; exact hbt, .inr ⟨by omega, by rw [show (((n - 1 : Nat) : Int) + 1) = (n : Int) by omega]; rfl⟩⟩), hq1.trans (hF3.below (by omega) (by omega))⟩
      · clear c0 c1 c2 c3 c4 c5
        go_roundw
        case rel => exact ⟨n + 1, _, by omega, by omega, by go_num, hF3, Lib.hid hD3, Lib.hid fun m h1 h => by
          by_cases e : m = n
          · subst e; exact hbf
          · exact hall.out m h1 (by omega)⟩
        case measure => simp [intOf]; try omega
    · obtain rfl : n = 401 := by omega
      have hlow := hq1.trans (hF.below (B := w.heap.size) (by omega) (by omega))
      go_wp2
      go_ret2
      exact ⟨by rw [← HP.out]; exact .inr (.inr ⟨HN.out, HW.out, 400, by omega, fun h => hall.out 400 (by omega) (by omega), fun h => by omega, .inl ⟨rfl, rfl⟩⟩), hlow⟩
end Go.Proofs.Ytilmlgngnbokfaa
