/- The document's worst. -/
import Derived.Test.YtilmlgngnbokfaaX3
import Derived.Test.YtilmlgngnbokfaaQ
namespace Go.Proofs.Ytilmlgngnbokfaa
set_option linter.unusedVariables false
set_option linter.unusedSimpArgs false
open Go.RowKit

theorem first_any (v : Value) (xs : List Int) (base : Nat) (pe : Int) (w : World) (hown : w.ownsRow base 3 1 v xs.length (xs.map I)) (hlen : xs.length ≤ 1000)
    (hbd : ∀ x ∈ xs, 0 ≤ x ∧ x ≤ 50000000) (hpe : 0 ≤ pe ∧ pe ≤ 100) : Calls Try.prog 82 #[v, I pe] w (RetI (topS pe.toNat xs) w) := by
  by_cases h0 : xs.length = 0
  · obtain rfl : xs = [] := List.eq_nil_of_length_eq_zero h0
    rw [topS_nil]
    exact first_nil v base pe w (by simpa using hown) hpe
  · rcases own_form hown with ⟨_, h⟩ | ⟨g, cap, rfl, _⟩
    · exact absurd h h0
    · exact first_some g cap xs base pe w (by omega) hown hlen hbd hpe

theorem new1 (w : World) (u : Value) (t : TypeId) : ∀ j x, [u][j]? = some x → (w.alloc (.cells #[u] t)).cell? ((⟨w.heap.size, 0, none⟩ : Addr).add j) = some x := by
  intro j x h
  rcases j with _ | j
  · simp at h; subst h; simp [Addr.add, go_sem]
  · simp at h
theorem comU_l (l r : Int) : max 1 l ∣ comU l r := ⟨2 * max 1 r, by unfold comU; rw [Int.mul_comm 2 (max 1 l), Int.mul_assoc]⟩
theorem comU_r {l r : Int} (hr : 1 ≤ r) : r ∣ comU l r := ⟨2 * max 1 l, by unfold comU; rw [show max 1 r = r by omega, Int.mul_comm]⟩
theorem share_left {l r wt x : Int} (hl : 0 ≤ l) (hx : 0 ≤ x) (hx2 : x < max 1 l) : shareU l r wt (-x) = leftV l r wt x := by
  unfold shareU leftV
  by_cases h0 : x = 0
  · subst h0
    rw [if_pos (by simp), show max 1 l - 0 = max 1 l by simp, Int.mul_assoc, Int.mul_ediv_cancel' (comU_l l r)]
  · rw [if_neg (by omega), if_pos ⟨by omega, by omega⟩, show max 1 l = l by omega, show l + -x = l - x by omega]
    have := comU_l l r
    rw [show max 1 l = l by omega] at this
    exact Int.mul_ediv_assoc _ this
theorem share_right {l r wt x : Int} (hx : 1 ≤ x) (hx2 : x < r) : shareU l r wt x = rightV l r wt x := by
  unfold shareU rightV
  rw [if_neg (by omega), if_neg (by omega), if_pos ⟨by omega, by omega⟩]
  exact Int.mul_ediv_assoc _ (comU_r (by omega))

set_option maxRecDepth 100000 in
set_option maxHeartbeats 4000000 in
theorem worst_any (Ap Al : Option Addr) (cp cl : Nat) (d : Deck) (i : Nat) (w : World) (ha : DeckAt w Ap Al d) (hd : d.ok 1000000) (hi : i < d.posts.length) :
    Calls Try.prog 75 #[d.val Ap Al cp cl, I i] w (RetI (bestU (leftOf d.lengths i) (rightOf d.lengths i) d.weight d.apart d.persons d.apart.toNat) w) := by
  have hbm := fun W (hB : Below w.heap.size w W) => beams_any Ap Al cp cl d i W (ha.below hB).hl (by have := hd.2.1; have := hd.2.2.1; omega) (by have := hd.2.2.1; omega)
  have hsh := fun W (hB : Below w.heap.size w W) x hx => share_any Ap Al cp cl d i x W (ha.below hB) hd hi hx
  have hbe := beam_bd hd i
  obtain ⟨_, _, _, _, _, _, o5, o6, o7⟩ := hd
  unfold shareD at hsh
  generalize hL : leftOf d.lengths i = l at *
  generalize hR : rightOf d.lengths i = r at *
  clear hL hR ha
  obtain ⟨ps, ls, own, wt, ap, pe⟩ := d
  simp only [Deck.val] at *
  obtain ⟨hl, hr⟩ := hbe
  obtain ⟨i0, hi0, hi1, hi2, hi3⟩ := info_parts info3
  have hu22 : Try.prog.underlying 22 = some (.slice 3) := Try.underlying22
  have HU22 := Lib.hid hu22
  have HI0 := Lib.hid hi0
  have HI1 := Lib.hid hi1
  have HI2 := Lib.hid hi2
  have HI3 := Lib.hid hi3
  clear hu22 hi0 hi1 hi2 hi3
  have HBM := Lib.hid hbm
  have HSH := Lib.hid hsh
  clear hbm hsh
  have hcells : ∀ W, Below (w.heap.size + 1) (w.alloc (.cells #[.slice Ap ps.length cp, .slice Al ls.length cl, I own, I wt, I ap, I pe] 24)) W →
      W.cell? ⟨w.heap.size, 0, none⟩ = some (.slice Ap ps.length cp) ∧ W.cell? ⟨w.heap.size, 1, none⟩ = some (.slice Al ls.length cl) ∧ W.cell? ⟨w.heap.size, 2, none⟩ = some (I own) ∧ W.cell? ⟨w.heap.size, 3, none⟩ = some (I wt) ∧ W.cell? ⟨w.heap.size, 4, none⟩ = some (I ap) ∧ W.cell? ⟨w.heap.size, 5, none⟩ = some (I pe) := fun W hB => by
    refine ⟨?_, ?_, ?_, ?_, ?_, ?_⟩ <;> (rw [hB.cell (p := ⟨w.heap.size, _, none⟩) (by simp)]; simp [go_sem])
  have HCE := Lib.hid hcells
  have hlow : ∀ W, Below (w.heap.size + 1) (w.alloc (.cells #[.slice Ap ps.length cp, .slice Al ls.length cl, I own, I wt, I ap, I pe] 24)) W → Below w.heap.size w W := fun W hB =>
    ((Below.refl _ w).alloc (Nat.le_refl _) _).trans (hB.mono (Nat.le_succ _))
  have HLOW := Lib.hid hlow
  clear hcells hlow
  have hbest := fun k : Nat => best_bd (pe := pe) hl hr o5 o6 o7 k
  have HBEST := Lib.hid hbest
  have hvb : ∀ (off : Int), 0 ≤ off → off < ap → ∀ v ∈ valsU l r wt ap off, 0 ≤ v ∧ v ≤ 50000000 := fun off h1 h2 v hv => by
    have := vals_bd hl hr ⟨h1, h2⟩ o5 o6 v hv
    have := comU_bd hl hr
    omega
  have HVB := Lib.hid hvb
  clear hbest hvb
  go_enter Try.func75, Try.ntmps75
  go_wp2_with (go_at_call 41; refine (HBM.out _ (by (repeat' (first | assumption | exact Below.refl _ _ | refine Below.drew ?_ | refine below_drewN ?_ _ | refine Below.setCell ?_ (by first | omega | (simp; done) | (simp; omega)) _ | refine Below.alloc ?_ (by first | omega | (simp; done) | (simp; omega)) _ | refine Below.trans ?_ (Below.mono (by assumption) (by first | omega | (simp; done) | (simp; omega))))))).mono ?_; rintro e w1 ⟨rfl, hB⟩)
  have hB0 : Below (w.heap.size + 1) (w.alloc (.cells #[.slice Ap ps.length cp, .slice Al ls.length cl, I own, I wt, I ap, I pe] 24)) w1 := by simpa using hB
  clear hB
  go_loopw [7, 8, 9, 10, 11] (fun s7 s8 s9 s10 s11 wr => ∃ a : Nat, (a : Int) ≤ ap ∧ s8 = I a ∧ s7 = I (bestU l r wt ap pe a) ∧ Below (w.heap.size + 1) (w.alloc (.cells #[.slice Ap ps.length cp, .slice Al ls.length cl, I own, I wt, I ap, I pe] 24)) wr) (fun _ s8 _ _ _ _ => ap.toNat - (intOf s8).toNat)
  case atStart => exact ⟨0, by omega, rfl, rfl, hB0⟩
  case round =>
    obtain ⟨a, haa, rfl, rfl, hBr⟩ := hrel
    by_cases hlt : (a : Int) < ap
    · have hvals := vals_eq l r wt ap a
      have hb0 := HBEST.out a (by omega)
      have hvb := HVB.out a (by omega) hlt
      have HVALS := Lib.hid hvals
      have HVB2 := Lib.hid hvb
      generalize hbv : bestU l r wt ap pe a = bv at *
      have HBV := Lib.hid hbv
      clear hvals hvb hbv
      obtain ⟨c0, c1, c2, c3, c4, c5⟩ := HCE.out wr hBr
      go_wp2
      obtain ⟨wo, rfl⟩ : ∃ wo : World, wo = wr := ⟨_, rfl⟩
      clear c0 c1 c2 c3 c4 c5
      go_loopw [9, 10] (fun s9 s10 wq => ∃ (x : Int) (pre : List Int), (a : Int) ≤ x ∧ x ≤ 1000 ∧ s10 = I x ∧ pre.length ≤ x ∧ Below (w.heap.size + 1) (w.alloc (.cells #[.slice Ap ps.length cp, .slice Al ls.length cl, I own, I wt, I ap, I pe] 24)) wq ∧
        Hid (pre ++ (upsF ap (max 1 l) x).map (leftV l r wt) = (upsF ap (max 1 l) a).map (leftV l r wt)) ∧ Hid (wq.ownsRow (w.heap.size + 1) 3 1 s9 pre.length (pre.map I))) (fun _ s10 _ => (1000 - intOf s10).toNat)
      case atStart => exact ⟨a, [], by omega, by omega, rfl, by simp, hBr, Lib.hid (by simp), Lib.hid (World.ownsRow_nil _ _ _ _)⟩
      case round =>
        obtain ⟨x, pre, hax, hx1, rfl, hpl, hBq, hpre, hown⟩ := hrel
        obtain ⟨c0, c1, c2, c3, c4, c5⟩ := HCE.out wr hBq
        by_cases hxl : x < max 1 l
        · have hcall := HSH.out wr (HLOW.out wr hBq) (-x) (by omega)
          rw [share_left hl.1 (by omega) hxl] at hcall
          have hup := upsF_cons o6.1 hxl
          have HUP := Lib.hid hup
          generalize hlv : leftV l r wt x = lv at hcall
          have HLV := Lib.hid hlv
          have HCALL := Lib.hid hcall
          clear hlv hcall hup
          go_wp2_with (first
            | (go_at_call 18; refine HCALL.out.mono ?_; rintro e w2 ⟨rfl, hB2⟩; have hz2 : w.heap.size + 1 ≤ w2.heap.size := (by have h1 := hBq.size; have h2 := hB2.size; simp at h1; omega); have HOWN2 := Lib.hid ((grown_own hown.out hB2).alloc (.cells #[I lv] 3)); have HBM2 : Hid (Below (w.heap.size + 1) (w.alloc (.cells #[.slice Ap ps.length cp, .slice Al ls.length cl, I own, I wt, I ap, I pe] 24)) (w2.alloc (.cells #[I lv] 3))) := Lib.hid ((hBq.trans (hB2.mono (by have h1 := hBq.size; simp at h1; omega))).alloc hz2 _); have HNEW := Lib.hid (new1 w2 (I lv) 3); clear hB2)
            | (at_builtin; refine wpList_append_own _ rfl _ _ 22 rfl (w.heap.size + 1) 3 i0 (.int .i64 0) 1 8 HU22.out HI0.out HI1.out HI2.out HI3.out rfl (by decide) _ _ _ rfl HOWN2.out ⟨w2.heap.size, 0, none⟩ 1 1 [I lv] rfl rfl HNEW.out (fun u hu => by simp at hu; subst hu; rfl) (by simp [maxLen]; omega) (by omega) (by simp; omega) ?_; intro v' w3 hown3 hgrow hnil; have hB3 := HBM2.out.grown hgrow (by simp; omega) (fun k hk => (HOWN2.out.lt k hk).1); have HB3 := Lib.hid hB3; have HOWN3 := Lib.hid hown3; obtain ⟨d0, d1, d2, d3, d4, d5⟩ := HCE.out w3 hB3; clear hown3 hgrow hnil hB3))
          go_roundw
          case rel =>
            refine ⟨x + ap, pre ++ [lv], by omega, by omega, rfl, by simp; omega, HB3.out, Lib.hid ?_, Lib.hid (by simpa using HOWN3.out)⟩
            rw [← hpre.out, HUP.out, List.map_cons, HLV.out]
            simp
          case measure => simp [intOf]; omega
        · have hup := upsF_nil (step := ap) hxl
          have hpre1 : pre = (upsF ap (max 1 l) a).map (leftV l r wt) := by have := hpre.out; rw [hup] at this; simpa using this
          have hpl1 : pre.length ≤ 200 := by
            rw [hpre1, List.length_map]
            have := upsF_length (bound := max 1 l) o6.1 (a : Int)
            omega
          have HPRE1 := Lib.hid hpre1
          clear hup hpre1 hpre
          go_wp2
          obtain ⟨wo2, rfl⟩ : ∃ wo2 : World, wo2 = wr := ⟨_, rfl⟩
          clear c0 c1 c2 c3 c4 c5
          go_loopw [9, 11] (fun s9 s11 wq => ∃ (x : Int) (pos : List Int), ap - (a : Int) ≤ x ∧ x ≤ 1000 ∧ s11 = I x ∧ pos.length ≤ x ∧ Below (w.heap.size + 1) (w.alloc (.cells #[.slice Ap ps.length cp, .slice Al ls.length cl, I own, I wt, I ap, I pe] 24)) wq ∧
            Hid (pos ++ (upsF ap r x).map (rightV l r wt) = (upsF ap r (ap - a)).map (rightV l r wt)) ∧ Hid (wq.ownsRow (w.heap.size + 1) 3 1 s9 (pre ++ pos).length ((pre ++ pos).map I))) (fun _ s11 _ => (1000 - intOf s11).toNat)
          case atStart => exact ⟨ap - a, [], by omega, by omega, rfl, by simp; omega, hBq, Lib.hid (by simp), by simpa using hown⟩
          case round =>
            obtain ⟨x, pos, hax, hx1, rfl, hpl, hBq, hpos, hown⟩ := hrel
            obtain ⟨c0, c1, c2, c3, c4, c5⟩ := HCE.out wr hBq
            have hlen : (pre ++ pos).length ≤ 1200 := by simp; omega
            by_cases hxr : x < r
            · have hcall := HSH.out wr (HLOW.out wr hBq) x (by omega)
              rw [share_right (by omega) hxr] at hcall
              have hup := upsF_cons o6.1 hxr
              have HUP := Lib.hid hup
              generalize hlv : rightV l r wt x = lv at hcall
              have HLV := Lib.hid hlv
              have HCALL := Lib.hid hcall
              clear hlv hcall hup
              go_wp2_with (first
                | (go_at_call 18; refine HCALL.out.mono ?_; rintro e w2 ⟨rfl, hB2⟩; have hz2 : w.heap.size + 1 ≤ w2.heap.size := (by have h1 := hBq.size; have h2 := hB2.size; simp at h1; omega); have HOWN2 := Lib.hid ((grown_own hown.out hB2).alloc (.cells #[I lv] 3)); have HBM2 : Hid (Below (w.heap.size + 1) (w.alloc (.cells #[.slice Ap ps.length cp, .slice Al ls.length cl, I own, I wt, I ap, I pe] 24)) (w2.alloc (.cells #[I lv] 3))) := Lib.hid ((hBq.trans (hB2.mono (by have h1 := hBq.size; simp at h1; omega))).alloc hz2 _); have HNEW := Lib.hid (new1 w2 (I lv) 3); clear hB2)
                | (at_builtin; refine wpList_append_own _ rfl _ _ 22 rfl (w.heap.size + 1) 3 i0 (.int .i64 0) 1 8 HU22.out HI0.out HI1.out HI2.out HI3.out rfl (by decide) _ _ _ rfl HOWN2.out ⟨w2.heap.size, 0, none⟩ 1 1 [I lv] rfl rfl HNEW.out (fun u hu => by simp at hu; subst hu; rfl) (by simp [maxLen]; omega) (by omega) (by simp; omega) ?_; intro v' w3 hown3 hgrow hnil; have hB3 := HBM2.out.grown hgrow (by simp; omega) (fun k hk => (HOWN2.out.lt k hk).1); have HB3 := Lib.hid hB3; have HOWN3 := Lib.hid hown3; obtain ⟨d0, d1, d2, d3, d4, d5⟩ := HCE.out w3 hB3; clear hown3 hgrow hnil hB3))
              go_roundw
              case rel =>
                refine ⟨x + ap, pos ++ [lv], by omega, by omega, rfl, by simp; omega, HB3.out, Lib.hid ?_, Lib.hid ?_⟩
                · rw [← hpos.out, HUP.out, List.map_cons, HLV.out]
                  simp
                · have := HOWN3.out
                  simpa [Nat.add_assoc] using this
              case measure => simp [intOf]; omega
            · have hup := upsF_nil (step := ap) hxr
              have hpos1 : pre ++ pos = valsU l r wt ap a := by
                have := hpos.out
                rw [hup] at this
                rw [HVALS.out, HPRE1.out, ← this]
                simp
              rw [hpos1] at hown
              have hvl : (valsU l r wt ap a).length ≤ 1000 := by
                rw [← hpos1]
                have h2 : pos.length ≤ 400 := by
                  have := hpos.out
                  rw [hup] at this
                  have h3 : pos = (upsF ap r (ap - a)).map (rightV l r wt) := by simpa using this
                  rw [h3, List.length_map]
                  have := upsF_length (bound := r) o6.1 (ap - (a : Int))
                  omega
                simp
                omega
              have hf := first_any u9 (valsU l r wt ap a) _ pe wr hown.out hvl HVB2.out o7
              have htop := top_bd (pe := pe) hl hr (off := a) ⟨by omega, hlt⟩ o5 o6 o7
              have hcu := comU_bd hl hr
              have hnext : bestU l r wt ap pe (a + 1) = max bv (topS pe.toNat (valsU l r wt ap a)) := by rw [← HBV.out]; rfl
              have HNX := Lib.hid hnext
              generalize topS pe.toNat (valsU l r wt ap a) = tv at *
              have HF := Lib.hid hf
              clear hup hpos1 hpos hf hnext hown
              go_wp2_with (go_at_call 82; refine HF.out.mono ?_; rintro e w2 ⟨rfl, hB2⟩)
              go_roundw
              case rel => exact ⟨a + 1, by omega, by go_num, by rw [HNX.out], hBq.trans (hB2.mono (by have := hBq.size; simp at this; omega))⟩
              case measure => simp [intOf]; omega
    · have hae : ap.toNat = a := by omega
      obtain ⟨c0, c1, c2, c3, c4, c5⟩ := HCE.out wr hBr
      have HAE := Lib.hid hae
      generalize hbv : bestU l r wt ap pe a = bv at *
      have HBV := Lib.hid hbv
      clear hae hbv
      go_wp2
      go_ret
      exact ⟨by rw [HAE.out, HBV.out]; rfl, HLOW.out _ hBr⟩
end Go.Proofs.Ytilmlgngnbokfaa
