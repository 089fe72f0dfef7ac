/- Soonest. -/
import Derived.Test.YtomfnldlnoiloaaDoorS11
namespace Go.Proofs.YtomfnldlnoiloaaDoor
set_option linter.unusedVariables false
set_option linter.unusedSimpArgs false
open Go Go.RowKit Go.Maps

/-- Soonest's error. -/
def soonE (v : Vis) (p q : Int) : Int := if errN v p 0 = 0 then (if inB q 1 1000 then 0 else 2) else errN v p 0
/-- What Soonest answers. -/
def SoonAns (v : Vis) (p q t : Int) : Prop :=
  (soonE v p q = 0 → (∃ k : Nat, k ≤ 60 ∧ t = k ∧ (∀ u, u < k → ∃ val R, MostIs v p.toNat u val R ∧ val < q) ∧ ∃ val R, MostIs v p.toNat k val R ∧ q ≤ val) ∨ (t = -1 ∧ ∀ u, u ≤ 60 → ∃ val R, MostIs v p.toNat u val R ∧ val < q)) ∧ (soonE v p q ≠ 0 → t = 0)
theorem SoonAns.uniq {v : Vis} {p q t t' : Int} (h : SoonAns v p q t) (h' : SoonAns v p q t') : t = t' := by
  by_cases he : soonE v p q = 0
  · have key : ∀ {a b : Int} {k : Nat}, (∃ val R, MostIs v p.toNat k val R ∧ val < q) → (∃ val R, MostIs v p.toNat k val R ∧ q ≤ val) → False := fun {a b k} ⟨v1, R1, h1, h2⟩ ⟨v2, R2, h3, h4⟩ => by
      have := (LeastL.uniq h1 h3).1
      omega
    rcases h.1 he with ⟨k, hk, rfl, h1, h2⟩ | ⟨rfl, h1⟩
    · rcases h'.1 he with ⟨k', hk', rfl, h3, h4⟩ | ⟨rfl, h3⟩
      · rcases Nat.lt_trichotomy k k' with a | a | a
        · exact (key (a := 0) (b := 0) (h3 k a) h2).elim
        · rw [a]
        · exact (key (a := 0) (b := 0) (h1 k' a) h4).elim
      · exact (key (a := 0) (b := 0) (h3 k hk) h2).elim
    · rcases h'.1 he with ⟨k', hk', rfl, h3, h4⟩ | ⟨rfl, h3⟩
      · exact (key (a := 0) (b := 0) (h1 k' hk') h4).elim
      · rfl
  · rw [h.2 he, h'.2 he]
set_option maxRecDepth 100000 in
set_option maxHeartbeats 4000000 in
theorem soonest26 (v : Vis) (h64 : Vis64 v) (A1 A2 A3 : Option Addr) (q1 q2 q3 : Nat) (p q : Int) (w : World) (hI : VisAt w w.heap.size v A1 A2 A3) (hG : GlobOk w) :
    Calls Tryd.prog 26 #[visV v A1 A2 A3 q1 q2 q3, I p, I q] w fun e w' => ∃ t : Int, e = .returned (.tuple #[I t, I (soonE v p q)]) ∧ SoonAns v p q t ∧ Below w.heap.size w w' := by
  obtain ⟨w2, hw2⟩ : ∃ w2, w.alloc (.cells #[.slice A1 v.rm.length q1, .slice A2 v.tr.length q2, .slice A3 v.ar.length q3] 26) = w2 := ⟨_, rfl⟩
  have hB2 : Below w.heap.size w w2 := by rw [← hw2]; (repeat' (first | assumption | exact Below.refl _ _ | refine Below.drew ?_ | refine below_drewN ?_ _ | refine Below.setCell ?_ (by first | omega | (simp; done) | (simp; omega)) _ | refine Below.alloc ?_ (by first | omega | (simp; done) | (simp; omega)) _ | refine Below.trans ?_ (Below.mono (by assumption) (by first | omega | (simp; done) | (simp; omega)))))
  have b1 : Box w2 w.heap.size [.slice A1 v.rm.length q1, .slice A2 v.tr.length q2, .slice A3 v.ar.length q3] := by rw [← hw2]; exact Box.new w [.slice A1 v.rm.length q1, .slice A2 v.tr.length q2, .slice A3 v.ar.length q3] 26
  have hI2 := (hI.below hB2).more hB2.size
  have H30 := Lib.hid (errorOf30 v h64 A1 A2 A3 q1 q2 q3 p 0 w2 hI2)
  have HBX : Hid (∀ W, Below w2.heap.size w2 W → (W.cell? ⟨w.heap.size, 0, none⟩ = some (.slice A1 v.rm.length q1) ∧ W.cell? ⟨w.heap.size, 1, none⟩ = some (.slice A2 v.tr.length q2) ∧ W.cell? ⟨w.heap.size, 2, none⟩ = some (.slice A3 v.ar.length q3)) ∧ Below w.heap.size w W) := Lib.hid fun W h =>
    ⟨⟨((b1.call h).at_ 0 _ rfl).1, ((b1.call h).at_ 1 _ rfl).1, ((b1.call h).at_ 2 _ rfl).1⟩, hB2.trans (h.mono hB2.size)⟩
  obtain ⟨⟨x0, x1, x2⟩, _⟩ := HBX.out w2 (Below.refl _ _)
  have HG2 : Hid (∀ W, Below w.heap.size w W → GlobOk W) := Lib.hid fun W h => hG.below h hG.z
  have HI2 : Hid (∀ W, Below w2.heap.size w2 W → VisAt W W.heap.size v A1 A2 A3) := Lib.hid fun W h => (hI2.below h).more h.size
  clear b1 hB2 hI hG hI2 h64
  by_cases he : errN v p 0 = 0
  · obtain ⟨hv, hp, _⟩ := err_zero he
    have HV := Lib.hid hv
    rw [he] at H30
    obtain ⟨pn, rfl⟩ : ∃ n : Nat, p = n := ⟨p.toNat, (Int.toNat_of_nonneg hp.1).symm⟩
    have hpn : pn < v.n := by have := hv.n; omega
    obtain ⟨s1, hs1⟩ : ∃ s, inB q 1 1000 = s := ⟨_, rfl⟩
    have H35 : Hid (∀ W, Calls Tryd.prog 35 #[I q, I 1, I 1000] W fun e w' => e = .returned (.bool s1) ∧ W = w') := Lib.hid fun W => by rw [← hs1]; exact within35 _ _ _ _
    cases s1
    · have HS : Hid (soonE v pn q = 2) := Lib.hid (by unfold soonE; rw [he, hs1]; rfl)
      have HA : Hid (SoonAns v pn q 0) := Lib.hid ⟨fun h => (by rw [HS.out] at h; cases h), fun _ => rfl⟩
      clear hp he hv hs1
      go_enter Tryd.func26, Tryd.ntmps26
      go_wp2_with (first
        | (go_at_call 30; refine H30.out.mono ?_; rintro e w3 ⟨rfl, hb3⟩; have hB3 := (HBX.out w3 hb3).2)
        | (go_at_call 35; refine (H35.out _).mono ?_; rintro e w4 ⟨rfl, rfl⟩)
        | fail)
      refine bodyPost_ret (v := .tuple #[I 0, I 2]) (by simp [results, Tryd.results26, go_sem]) rfl ⟨0, by rw [HS.out], HA.out, hB3⟩
    · have HS : Hid (soonE v pn q = 0) := Lib.hid (by unfold soonE; rw [he, hs1]; rfl)
      have H40 : Hid (∀ W, Below w2.heap.size w2 W → ∀ mn : Nat, mn ≤ 60 → Calls Tryd.prog 40 #[visV v A1 A2 A3 q1 q2 q3, sd pn mn] W fun e w' => ∃ b, e = .returned (.map (some b)) ∧ Below W.heap.size W w' ∧ NetL (W.heap.size + 1 + 1) b (snkN v mn + 1) (ktv v.n (srcN v mn)) (netP v pn mn) w') := Lib.hid fun W h mn hmn => newNet40 v hv pn mn hpn hmn A1 A2 A3 q1 q2 q3 W (HI2.out W h) (HG2.out W (HBX.out W h).2)
      clear hp he hv hs1
      go_enter Tryd.func26, Tryd.ntmps26
      go_wp2_with (first
        | (go_at_call 30; refine H30.out.mono ?_; rintro e w3 ⟨rfl, hb3⟩; obtain ⟨⟨y0, y1, y2⟩, hB3⟩ := HBX.out w3 hb3)
        | (go_at_call 35; refine (H35.out _).mono ?_; rintro e w4 ⟨rfl, rfl⟩)
        | fail)
      have HB3 := Lib.hid hb3
      clear hb3 hB3
      go_loopw [20] (fun i wr => ∃ k : Nat, i = I k ∧ k ≤ 61 ∧ Hid (Below w2.heap.size w2 wr) ∧ Hid (∀ u, u < k → ∃ val R, MostIs v pn u val R ∧ val < q)) (fun i _ => 61 - (intOf i).toNat)
      case atStart => exact ⟨0, rfl, by omega, HB3, Lib.hid fun u h => by omega⟩
      case round =>
        obtain ⟨k, rfl, hk, HB, HU⟩ := hrel
        clear y0 y1 y2
        by_cases hlt : k < 61
        · have hwk : IntKind.i64.wrap ((k : Int) + 1) = (k : Int) + 1 := IntWalk.i64_in _ (by omega)
          obtain ⟨⟨z0, z1, z2⟩, _⟩ := HBX.out wr HB.out
          have H40k := Lib.hid (H40.out wr HB.out k (by omega))
          go_wp2_with (first
            | (go_at_call 40; refine H40k.out.mono ?_; rintro e w4 ⟨b, rfl, hb4, hN4⟩; have hb24 := below_call HB.out hb4; have H41 := Lib.hid (fillNet HV.out hpn (show k ≤ 60 by omega) hN4 (HG2.out w4 (HBX.out w4 hb24).2) (by omega)))
            | (go_at_call 41; refine H41.out.mono ?_; rintro e w5 ⟨d, f, val, hd, rfl, hF, _, hM⟩; have hB5 : Below w2.heap.size w2 w5 := hb24.trans (hF.bl.mono (by have := HB.out.size; omega)); have hM' := Lib.hid hM; clear hM hF hd hN4; by_cases hq : q ≤ val)
            | fail)
          · have HB5 := (HBX.out w5 hB5).2
            refine bodyPost_ret (v := .tuple #[I k, I 0]) (by simp [results, Tryd.results26, go_sem]) rfl ⟨k, by rw [HS.out], ⟨fun _ => .inl ⟨k, by omega, rfl, HU.out, _, _, hM'.out, by assumption⟩, fun h => absurd HS.out h⟩, HB5⟩
          · go_roundw
            case rel => exact ⟨k + 1, by go_num, by omega, Lib.hid hB5, Lib.hid fun u hu => by
              rcases Nat.lt_succ_iff_lt_or_eq.1 hu with h | rfl
              · exact HU.out u h
              · exact ⟨_, _, hM'.out, by omega⟩⟩
            case measure => simp [intOf]; omega
        · obtain rfl : k = 61 := by omega
          go_wp2_with (fail)
          refine bodyPost_ret (v := .tuple #[I (-1), I 0]) (by simp [results, Tryd.results26, go_sem]) rfl ⟨-1, by rw [HS.out], ⟨fun _ => .inr ⟨rfl, fun u hu => HU.out u (by omega)⟩, fun h => absurd HS.out h⟩, (HBX.out wr HB.out).2⟩
  · have HS : Hid (soonE v p q = errN v p 0) := Lib.hid (by unfold soonE; rw [if_neg he])
    have HA : Hid (SoonAns v p q 0) := Lib.hid ⟨fun h => (by rw [HS.out] at h; exact absurd h he), fun _ => rfl⟩
    obtain ⟨e0, he0⟩ : ∃ z, errN v p 0 = z := ⟨_, rfl⟩
    rw [he0] at H30 he HS
    clear he0
    have heb : (e0 == 0) = false := by simpa using he
    go_enter Tryd.func26, Tryd.ntmps26
    go_wp2_with (first
      | (go_at_call 30; refine H30.out.mono ?_; rintro e w3 ⟨rfl, hb3⟩; have hB3 := (HBX.out w3 hb3).2)
      | fail)
    refine bodyPost_ret (v := .tuple #[I 0, I e0]) (by simp [results, Tryd.results26, go_sem]) rfl ⟨0, by rw [HS.out], HA.out, hB3⟩
end Go.Proofs.YtomfnldlnoiloaaDoor
