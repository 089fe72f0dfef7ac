/- The document's Crust; Spans. -/
import Derived.Test.YtilmlgngnbokfaaX7
namespace Go.Proofs.Ytilmlgngnbokfaa
set_option linter.unusedVariables false
set_option linter.unusedSimpArgs false
open Go.RowKit

set_option maxRecDepth 100000 in
set_option maxHeartbeats 2000000 in
theorem refCrust_any (A : Option Addr) (c : Nat) (g : Grd) (B : Option Addr) (cl : Nat) (l : List (Int × Int × Int)) (w : World)
   (hr : Pairs w w.heap.size A g.radar) (hl : Threes w w.heap.size B l) (hrl : g.radar.length ≤ 9223372036854775807) (hll : l.length ≤ 9223372036854775807) :
    Calls Try.prog 22 #[g.val A c, .slice B l.length cl] w (CrustPost g l w) := by
  have hG : ∀ W, Below w.heap.size w W → Calls Try.prog 31 #[g.val A c] W (RetB g.ok W) := fun W hB =>
    refGround_any A c g W ((hr.below hB).more hB.size) hrl
  have hS : ∀ W, Below w.heap.size w W → Calls Try.prog 45 #[.slice B l.length cl, I g.radar.length] W (RetB (SndOk g.radar.length l) W) := fun W hB =>
    refSnd_any B cl l _ W ((hl.below hB).more hB.size) hll (by omega)
  have hP0 : ∀ e w', CrustPost g l w e w' ↔ CrustPost g l w e w' := fun _ _ => Iff.rfl
  by_cases hg : g.ok
  · by_cases hsn : SndOk g.radar.length l
    · have hok : GSOk g l := ⟨hg, hsn⟩
      have hs := hok.snd
      have hC : ∀ W, Below w.heap.size w W → Calls Try.prog 46 #[g.val A c, .slice B l.length cl] W (crPost g.radar l W) := fun W hB =>
        crust46 A c g B cl l W ((hr.below hB).more hB.size) ((hl.below hB).more hB.size) hs.1 hs.2.1 hs.2.2
      have HOK := Lib.hid hok
      have HG := Lib.hid hg
      have HSN := Lib.hid hsn
      generalize hP : CrustPost g l w = P
      have HP := Lib.hid hP
      have hpp : ∀ W e w', Below w.heap.size w W → crPost g.radar l W e w' → Below w.heap.size w w' ∧ ((∃ n, e = .returned (.tuple #[.slice none 0 0, I n, .bool false]) ∧ P (.returned (.tuple #[.slice none 0 0, I n, I 6])) w') ∨ (∃ gg cap, e = .returned (.tuple #[.slice (some ⟨gg, 0, none⟩) g.radar.length cap, I g.radar.length, .bool true]) ∧ P (.returned (.tuple #[.slice (some ⟨gg, 0, none⟩) g.radar.length cap, I g.radar.length, I 0])) w')) := fun W e w' hB h => by
        have hb2 := below_call hB h.1
        refine ⟨hb2, ?_⟩
        rw [← hP]
        rcases h.2 with ⟨h1, h2⟩ | ⟨h1, gg, cap, h2, h3, h4, h5, h6, h7⟩
        · exact .inl ⟨_, h2, hb2, .inr (.inl ⟨hok, h1, rfl⟩)⟩
        · exact .inr ⟨gg, cap, h2, hb2, .inr (.inr ⟨hok, h1, gg, cap, rfl, h3, h4, by have := hB.size; omega, h6, h7⟩)⟩
      have HPP := Lib.hid hpp
      clear hP hok hg hsn hs hpp hr hl hP0
      obtain ⟨wd, fm, ra⟩ := g
      simp only [Grd.val] at *
      go_enter Try.func22, Try.ntmps22
      go_wp2_with (first
        | (go_at_call 31; refine (hG _ (by (repeat' (first | assumption | exact Below.refl _ _ | refine Below.drew ?_ | refine below_drewN ?_ _ | refine Below.setCell ?_ (by first | omega | (simp; done) | (simp; omega)) _ | refine Below.alloc ?_ (by first | omega | (simp; done) | (simp; omega)) _ | refine Below.trans ?_ (Below.mono (by assumption) (by first | omega | (simp; done) | (simp; omega))))))).mono ?_; rintro e w1 ⟨b, rfl, hbe', hB⟩; obtain rfl : b = true := hbe'.2 HG.out; clear hbe'; have hB1 := below_call (w := w) (by (repeat' (first | assumption | exact Below.refl _ _ | refine Below.drew ?_ | refine below_drewN ?_ _ | refine Below.setCell ?_ (by first | omega | (simp; done) | (simp; omega)) _ | refine Below.alloc ?_ (by first | omega | (simp; done) | (simp; omega)) _ | refine Below.trans ?_ (Below.mono (by assumption) (by first | omega | (simp; done) | (simp; omega)))))) hB; obtain ⟨hcc, hff⟩ := bcell hB; have hz0 : w.heap.size < w1.heap.size := (by have := hB.size; simp at this; omega))
        | (go_at_call 45; refine (hS _ (by (repeat' (first | assumption | exact Below.refl _ _ | refine Below.drew ?_ | refine below_drewN ?_ _ | refine Below.setCell ?_ (by first | omega | (simp; done) | (simp; omega)) _ | refine Below.alloc ?_ (by first | omega | (simp; done) | (simp; omega)) _ | refine Below.trans ?_ (Below.mono (by assumption) (by first | omega | (simp; done) | (simp; omega))))))).mono ?_; rintro e w2 ⟨b, rfl, hbe', hBd⟩; obtain rfl : b = true := hbe'.2 HSN.out; clear hbe'; have hB2 := below_call (w := w) (by (repeat' (first | assumption | exact Below.refl _ _ | refine Below.drew ?_ | refine below_drewN ?_ _ | refine Below.setCell ?_ (by first | omega | (simp; done) | (simp; omega)) _ | refine Below.alloc ?_ (by first | omega | (simp; done) | (simp; omega)) _ | refine Below.trans ?_ (Below.mono (by assumption) (by first | omega | (simp; done) | (simp; omega)))))) hBd; obtain ⟨hcc2, hff2⟩ := bcell hBd; have hy0 : w.heap.size < w2.heap.size := (by have := hBd.size; omega))
        | (go_at_call 46; refine (hC _ (by (repeat' (first | assumption | exact Below.refl _ _ | refine Below.drew ?_ | refine below_drewN ?_ _ | refine Below.setCell ?_ (by first | omega | (simp; done) | (simp; omega)) _ | refine Below.alloc ?_ (by first | omega | (simp; done) | (simp; omega)) _ | refine Below.trans ?_ (Below.mono (by assumption) (by first | omega | (simp; done) | (simp; omega))))))).mono ?_; rintro e w3 hpost; obtain ⟨hb3, ⟨n, rfl, hfin⟩ | ⟨gg, cap, rfl, hfin⟩⟩ := HPP.out _ _ _ (by (repeat' (first | assumption | exact Below.refl _ _ | refine Below.drew ?_ | refine below_drewN ?_ _ | refine Below.setCell ?_ (by first | omega | (simp; done) | (simp; omega)) _ | refine Below.alloc ?_ (by first | omega | (simp; done) | (simp; omega)) _ | refine Below.trans ?_ (Below.mono (by assumption) (by first | omega | (simp; done) | (simp; omega)))))) hpost))
      all_goals clear hpost
      · refine bodyPost_ret (v := .tuple #[.slice none 0 0, I n, I 6]) (by simp [results, Try.results22, go_sem]) rfl hfin
      · refine bodyPost_ret (v := .tuple #[.slice (some ⟨gg, 0, none⟩) ra.length cap, I ra.length, I 0]) (by simp [results, Try.results22, go_sem]) rfl hfin
    · have HNO : Hid (¬ GSOk g l) := Lib.hid (fun h => hsn h.2)
      have HG := Lib.hid hg
      have HSN := Lib.hid hsn
      generalize hP : CrustPost g l w = P
      have HP := Lib.hid hP
      clear hP hg hsn hr hl hP0
      obtain ⟨wd, fm, ra⟩ := g
      simp only [Grd.val] at *
      go_enter Try.func22, Try.ntmps22
      go_wp2_with (first
        | (go_at_call 31; refine (hG _ (by (repeat' (first | assumption | exact Below.refl _ _ | refine Below.drew ?_ | refine below_drewN ?_ _ | refine Below.setCell ?_ (by first | omega | (simp; done) | (simp; omega)) _ | refine Below.alloc ?_ (by first | omega | (simp; done) | (simp; omega)) _ | refine Below.trans ?_ (Below.mono (by assumption) (by first | omega | (simp; done) | (simp; omega))))))).mono ?_; rintro e w1 ⟨b, rfl, hbe', hB⟩; obtain rfl : b = true := hbe'.2 HG.out; clear hbe'; have hB1 := below_call (w := w) (by (repeat' (first | assumption | exact Below.refl _ _ | refine Below.drew ?_ | refine below_drewN ?_ _ | refine Below.setCell ?_ (by first | omega | (simp; done) | (simp; omega)) _ | refine Below.alloc ?_ (by first | omega | (simp; done) | (simp; omega)) _ | refine Below.trans ?_ (Below.mono (by assumption) (by first | omega | (simp; done) | (simp; omega)))))) hB; obtain ⟨hcc, hff⟩ := bcell hB; have hz0 : w.heap.size < w1.heap.size := (by have := hB.size; simp at this; omega))
        | (go_at_call 45; refine (hS _ (by (repeat' (first | assumption | exact Below.refl _ _ | refine Below.drew ?_ | refine below_drewN ?_ _ | refine Below.setCell ?_ (by first | omega | (simp; done) | (simp; omega)) _ | refine Below.alloc ?_ (by first | omega | (simp; done) | (simp; omega)) _ | refine Below.trans ?_ (Below.mono (by assumption) (by first | omega | (simp; done) | (simp; omega))))))).mono ?_; rintro e w2 ⟨b, rfl, hbe', hBd⟩; obtain rfl : b = false := (by cases b <;> first | rfl | exact absurd (hbe'.1 rfl) HSN.out); clear hbe'; have hB2 := below_call (w := w) (by (repeat' (first | assumption | exact Below.refl _ _ | refine Below.drew ?_ | refine below_drewN ?_ _ | refine Below.setCell ?_ (by first | omega | (simp; done) | (simp; omega)) _ | refine Below.alloc ?_ (by first | omega | (simp; done) | (simp; omega)) _ | refine Below.trans ?_ (Below.mono (by assumption) (by first | omega | (simp; done) | (simp; omega)))))) hBd))
      refine bodyPost_ret (v := .tuple #[.slice none 0 0, I 0, I 1]) (by simp [results, Try.results22, go_sem]) rfl ?_
      rw [← HP.out]
      exact ⟨hB2, .inl ⟨HNO.out, rfl⟩⟩
  · have HNO : Hid (¬ GSOk g l) := Lib.hid (fun h => hg h.1)
    have HG := Lib.hid hg
    generalize hP : CrustPost g l w = P
    have HP := Lib.hid hP
    clear hP hg hr hl hP0
    obtain ⟨wd, fm, ra⟩ := g
    simp only [Grd.val] at *
    go_enter Try.func22, Try.ntmps22
    go_wp2_with (first
      | (go_at_call 31; refine (hG _ (by (repeat' (first | assumption | exact Below.refl _ _ | refine Below.drew ?_ | refine below_drewN ?_ _ | refine Below.setCell ?_ (by first | omega | (simp; done) | (simp; omega)) _ | refine Below.alloc ?_ (by first | omega | (simp; done) | (simp; omega)) _ | refine Below.trans ?_ (Below.mono (by assumption) (by first | omega | (simp; done) | (simp; omega))))))).mono ?_; rintro e w1 ⟨b, rfl, hbe', hB⟩; obtain rfl : b = false := (by cases b <;> first | rfl | exact absurd (hbe'.1 rfl) HG.out); clear hbe'; have hB1 := below_call (w := w) (by (repeat' (first | assumption | exact Below.refl _ _ | refine Below.drew ?_ | refine below_drewN ?_ _ | refine Below.setCell ?_ (by first | omega | (simp; done) | (simp; omega)) _ | refine Below.alloc ?_ (by first | omega | (simp; done) | (simp; omega)) _ | refine Below.trans ?_ (Below.mono (by assumption) (by first | omega | (simp; done) | (simp; omega)))))) hB))
    refine bodyPost_ret (v := .tuple #[.slice none 0 0, I 0, I 1]) (by simp [results, Try.results22, go_sem]) rfl ?_
    rw [← HP.out]
    exact ⟨hB1, .inl ⟨HNO.out, rfl⟩⟩

set_option maxRecDepth 100000 in
set_option maxHeartbeats 1000000 in
theorem spans_any (A : Option Addr) (c : Nat) (xs : List (Int × Int)) (B : Option Addr) (cb : Nat) (ys : List (Int × Int)) (w : World)
   (hx : Pairs w w.heap.size A xs) (hy : Pairs w w.heap.size B ys) (hxl : xs.length ≤ 9223372036854775807) (hyl : ys.length ≤ 9223372036854775807) :
    Calls Try.prog 24 #[.slice A xs.length c, .slice B ys.length cb] w (RetB (xs = ys) w) := by
  by_cases hlen : xs.length = ys.length
  · rw [← hlen]
    have HLEN := Lib.hid hlen
    clear hlen hyl
    go_enter Try.func24, Try.ntmps24
    go_wp2
    go_loopw [5] (fun s wq => ∃ k : Nat, k ≤ xs.length ∧ s = I k ∧ Below w.heap.size w wq ∧ Hid (∀ j, j < k → xs[j]? = ys[j]?)) (fun s _ => xs.length - (intOf s).toNat)
    case atStart => exact ⟨0, by omega, rfl, Below.refl _ _, Lib.hid fun j h => by omega⟩
    case round =>
      obtain ⟨k, hk, rfl, hB, hall⟩ := hrel
      by_cases hlt : k < xs.length
      · obtain ⟨b, off, rfl, hb, hcs⟩ := (hx.below hB) (by omega)
        obtain ⟨b', off', rfl, hb', hcs'⟩ := (hy.below hB) (by have := HLEN.out; omega)
        have hk' : k < ys.length := by have := HLEN.out; omega
        obtain ⟨c1, c2⟩ := hcs k hlt
        obtain ⟨d1, d2⟩ := hcs' k hk'
        have hg : ∀ p q, xs[k] = p → ys[k] = q → (p = q → ∀ j, j < k + 1 → xs[j]? = ys[j]?) ∧ (p ≠ q → xs ≠ ys) := fun p q hp hq => ⟨fun h j hj => by
            by_cases e : j = k
            · subst e; simp [hlt, hk', hp, hq, h]
            · exact hall.out j (by omega), fun h e => h (by subst e; rw [← hp, ← hq])⟩
        clear hcs hcs'
        generalize hp : xs[k] = p at c1 c2
        generalize hq : ys[k] = q at d1 d2
        have HG := Lib.hid (hg p q hp hq)
        clear hg hp hq
        obtain ⟨p1, p2⟩ := p
        obtain ⟨q1, q2⟩ := q
        simp only at c1 c2 d1 d2
        by_cases hpq : (p1, p2) = (q1, q2)
        · have hw := HG.out.1 hpq
          have HW := Lib.hid hw
          obtain ⟨rfl, rfl⟩ := Prod.mk.inj hpq
          clear hw hpq
          go_wp2
          go_quiet (fail)
          go_wp2
          go_roundw
          case rel => exact ⟨k + 1, by omega, by go_num, by (repeat' (first | assumption | exact Below.refl _ _ | refine Below.drew ?_ | refine below_drewN ?_ _ | refine Below.setCell ?_ (by first | omega | (simp; done) | (simp; omega)) _ | refine Below.alloc ?_ (by first | omega | (simp; done) | (simp; omega)) _ | refine Below.trans ?_ (Below.mono (by assumption) (by first | omega | (simp; done) | (simp; omega))))), HW⟩
          case measure => simp [intOf]; omega
        · have hw := HG.out.2 hpq
          have HW := Lib.hid hw
          have hne : ¬ (p1 = q1 ∧ p2 = q2) := fun ⟨h1, h2⟩ => hpq (by rw [h1, h2])
          clear hw hpq
          by_cases h1 : p1 = q1
          · have h2 : ¬ p2 = q2 := fun h => hne ⟨h1, h⟩
            subst h1
            have h3 : (p2 == q2) = false := by simpa using h2
            clear hne
            go_wp2
            go_quiet (fail)
            go_wp2
            go_ret
            exact .no HW.out (by (repeat' (first | assumption | exact Below.refl _ _ | refine Below.drew ?_ | refine below_drewN ?_ _ | refine Below.setCell ?_ (by first | omega | (simp; done) | (simp; omega)) _ | refine Below.alloc ?_ (by first | omega | (simp; done) | (simp; omega)) _ | refine Below.trans ?_ (Below.mono (by assumption) (by first | omega | (simp; done) | (simp; omega))))))
          · have h3 : (p1 == q1) = false := by simpa using h1
            clear hne
            go_wp2
            go_quiet (fail)
            go_wp2
            go_ret
            exact .no HW.out (by (repeat' (first | assumption | exact Below.refl _ _ | refine Below.drew ?_ | refine below_drewN ?_ _ | refine Below.setCell ?_ (by first | omega | (simp; done) | (simp; omega)) _ | refine Below.alloc ?_ (by first | omega | (simp; done) | (simp; omega)) _ | refine Below.trans ?_ (Below.mono (by assumption) (by first | omega | (simp; done) | (simp; omega))))))
      · have hall2 : xs = ys := List.ext_getElem? fun j => by
          by_cases hj : j < k
          · exact hall.out j hj
          · have := HLEN.out
            rw [List.getElem?_eq_none (by omega), List.getElem?_eq_none (by omega)]
        have HA := Lib.hid hall2
        clear hall2
        go_wp2
        go_ret
        exact .yes HA.out hB
  · have HNO : Hid (¬ xs = ys) := Lib.hid (fun h => hlen (by rw [h]))
    have hl' : ((xs.length : Int) == ys.length) = false := by simp; omega
    clear hlen
    go_enter Try.func24, Try.ntmps24
    go_wp2
    go_ret
    exact .no HNO.out (Below.refl _ _)
end Go.Proofs.Ytilmlgngnbokfaa
