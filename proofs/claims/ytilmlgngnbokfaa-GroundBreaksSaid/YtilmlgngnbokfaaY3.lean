/- The document's Breaks. -/
import Derived.Test.YtilmlgngnbokfaaY1
import Derived.Test.YtilmlgngnbokfaaY2
import Derived.Test.YtilmlgngnbokfaaMo
namespace Go.Proofs.Ytilmlgngnbokfaa
set_option linter.unusedVariables false
set_option linter.unusedSimpArgs false
open Go.RowKit

theorem AllOk.lo {g : Grd} {l : List (Int × Int × Int)} {d : Deck} (h : AllOk g l d) : (∀ k (h : k < (crustL g.radar l).length), 0 ≤ (crustL g.radar l)[k].1 ∧ (crustL g.radar l)[k].1 ≤ 500) ∧ (crustL g.radar l).length ≤ 400 ∧ (1 ≤ g.firm ∧ g.firm ≤ 100) ∧ (crustL g.radar l).length = g.radar.length := by
  have hlen := crustL_length g.radar l
  obtain ⟨⟨⟨_, hf, hr, _, ht⟩, hs⟩, hd⟩ := h
  exact ⟨crust_lo _ ht _ (fun k hk => (hs.2 k hk).2), by omega, hf, hlen⟩
/-- breaks behind errors. -/
theorem brk_call {A : Option Addr} {c : Nat} {g : Grd} {gg cap : Nat} {l : List (Int × Int × Int)} {Ap Al : Option Addr} {cp cl : Nat} {d d' : Deck} {w W : World} (h : AllOk g l d) (hd : d'.ok g.radar.length) (ha : DeckAt W Ap Al d') (hgg : gg < W.heap.size) (hC : Crust2 W gg (crustL g.radar l)) :
    Calls Try.prog 51 #[g.val A c, .slice (some ⟨gg, 0, none⟩) g.radar.length cap, d'.val Ap Al cp cl] W fun e w' => e = .returned (I (brkI d' (crustL g.radar l) g.firm)) ∧ Below W.heap.size W w' := by
  obtain ⟨h1, h2, h3, h4⟩ := h.lo
  have := refbreaks_any A c g gg cap (crustL g.radar l) Ap Al cp cl d' W ha (by rw [h4]; exact hd) hgg hC h2 h1 h3
  rw [h4] at this
  exact this

set_option maxRecDepth 100000 in
set_option maxHeartbeats 4000000 in
theorem refBreaks_any (A : Option Addr) (c : Nat) (g : Grd) (B : Option Addr) (cb : Nat) (l : List (Int × Int × Int)) (Ap Al : Option Addr) (cp cl : Nat) (d : Deck) (w : World) (ha : Args w A g B l Ap Al d) :
    Calls Try.prog 26 #[g.val A c, .slice B l.length cb, d.val Ap Al cp cl] w fun e w' => BrkPost g l d e ∧ Below w.heap.size w w' := by
  have hE : ∀ W, Below w.heap.size w W → Calls Try.prog 50 #[g.val A c, .slice B l.length cb, d.val Ap Al cp cl] W (ErrPost g l d W) := fun W hB =>
    have h := ha.below hB
    errors_any A c g B cb l Ap Al cp cl d W h.hr h.hl h.hrl h.hll h.hp h.hb h.hpl h.hbl
  have hK : AllOk g l d → ∀ W gg cap, Below w.heap.size w W → gg < W.heap.size → Crust2 W gg (crustL g.radar l) → Calls Try.prog 51 #[g.val A c, .slice (some ⟨gg, 0, none⟩) g.radar.length cap, d.val Ap Al cp cl] W fun e w' => e = .returned (I (brkI d (crustL g.radar l) g.firm)) ∧ Below W.heap.size W w' := fun h W gg cap hB hgg hC =>
    brk_call (w := w) h h.2 ⟨(ha.below hB).hp, (ha.below hB).hb⟩ hgg hC
  have hp0 : ∀ e, BrkPost g l d e = BrkPost g l d e := fun _ => rfl
  generalize hbi : brkI d (crustL g.radar l) g.firm = bi at *
  generalize hP : BrkPost g l d = P
  have HP := Lib.hid hP
  have HBI := Lib.hid hbi
  have HK := Lib.hid hK
  clear hP ha hp0 hbi hK
  obtain ⟨wd, fm, ra⟩ := g
  obtain ⟨ps, ls, own, wt, ap, pe⟩ := d
  simp only [Grd.val, Deck.val] at *
  have hce : ∀ W, Below (w.heap.size + 2) ((w.alloc (.cells #[I wd, I fm, .slice A ra.length c] 29)).alloc (.cells #[.slice Ap ps.length cp, .slice Al ls.length cl, I own, I wt, I ap, I pe] 24)) W →
      (W.cell? ⟨w.heap.size, 0, none⟩ = some (I wd) ∧ W.cell? ⟨w.heap.size, 1, none⟩ = some (I fm) ∧ W.cell? ⟨w.heap.size, 2, none⟩ = some (.slice A ra.length c) ∧ W.cell? ⟨w.heap.size + 1, 0, none⟩ = some (.slice Ap ps.length cp) ∧ W.cell? ⟨w.heap.size + 1, 1, none⟩ = some (.slice Al ls.length cl) ∧ W.cell? ⟨w.heap.size + 1, 2, none⟩ = some (I own) ∧ W.cell? ⟨w.heap.size + 1, 3, none⟩ = some (I wt) ∧ W.cell? ⟨w.heap.size + 1, 4, none⟩ = some (I ap) ∧ W.cell? ⟨w.heap.size + 1, 5, none⟩ = some (I pe)) ∧ Below w.heap.size w W ∧ w.heap.size + 2 ≤ W.heap.size := fun W hB => by
    refine ⟨⟨?_, ?_, ?_, ?_, ?_, ?_, ?_, ?_, ?_⟩, (((Below.refl _ w).alloc (Nat.le_refl _) _).alloc (by simp) _).trans (hB.mono (by omega)), by have := hB.size; simpa using this⟩
    iterate 3 (rw [hB.cell (p := ⟨w.heap.size, _, none⟩) (by simp)]; simp [go_sem])
    iterate 6 (rw [hB.cell (p := ⟨w.heap.size + 1, _, none⟩) (by simp)]; simp [go_sem])
  have HCE := Lib.hid hce
  clear hce
  rcases (show bi < 0 ∨ 0 ≤ bi by omega) with hneg | hneg
  all_goals
    go_enter Try.func26, Try.ntmps26
    go_wp2_with (first
      | (go_at_call 50; refine (hE _ (by (repeat' (first | assumption | exact Below.refl _ _ | refine Below.drew ?_ | refine below_drewN ?_ _ | refine Below.setCell ?_ (by first | omega | (simp; done) | (simp; omega)) _ | refine Below.alloc ?_ (by first | omega | (simp; done) | (simp; omega)) _ | refine Below.trans ?_ (Below.mono (by assumption) (by first | omega | (simp; done) | (simp; omega))))))).mono ?_; rintro e w1 ⟨hB, ⟨hn, rfl⟩ | ⟨hn, hw, rfl⟩ | ⟨hn, hw, gg, cap, rfl, hcap, hcap2, hgg, hgg2, hCr⟩⟩ <;> (have hw1 : Below (w.heap.size + 2) ((w.alloc (.cells #[I wd, I fm, .slice A ra.length c] 29)).alloc (.cells #[.slice Ap ps.length cp, .slice Al ls.length cl, I own, I wt, I ap, I pe] 24)) w1 := (by simpa using hB)) <;> obtain ⟨⟨a1, a2, a3, a4, a5, a6, a7, a8, a9⟩, hq1, hz1⟩ := HCE.out w1 hw1)
      | (go_at_call 51; refine (HK.out hn w1 gg cap hq1 hgg2 hCr).mono ?_; rintro e w2 ⟨rfl, hB2⟩; have hq2 := hq1.trans (hB2.mono hq1.size)))
  · go_ret2
    exact ⟨by rw [← HP.out]; exact .inl ⟨hn, rfl⟩, hq1⟩
  · go_ret2
    exact ⟨by rw [← HP.out]; exact .inr (.inl ⟨hn, hw, rfl⟩), hq1⟩
  · go_ret2
    exact ⟨by rw [← HP.out]; exact .inr (.inr (.inr ⟨hn, hw, by rw [HBI.out]; exact hneg, rfl⟩)), hq2⟩
  · go_ret2
    exact ⟨by rw [← HP.out]; exact .inl ⟨hn, rfl⟩, hq1⟩
  · go_ret2
    exact ⟨by rw [← HP.out]; exact .inr (.inl ⟨hn, hw, rfl⟩), hq1⟩
  · go_ret2
    exact ⟨by rw [← HP.out]; exact .inr (.inr (.inl ⟨hn, hw, by rw [HBI.out]; exact hneg, by rw [HBI.out]; rfl⟩)), hq2⟩
end Go.Proofs.Ytilmlgngnbokfaa
