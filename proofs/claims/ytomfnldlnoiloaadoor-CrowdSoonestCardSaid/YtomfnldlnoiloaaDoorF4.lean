/- All numbers of a visit and of moves, one behind the other (closure 25 of CrowdOwns). Printed by mkF4.py. -/
import Derived.Test.YtomfnldlnoiloaaDoorT2
import Derived.Test.YtomfnldlnoiloaaDoorS5
namespace Go.Proofs.YtomfnldlnoiloaaDoor
set_option linter.unusedVariables false
set_option linter.unusedSimpArgs false
open Go Go.RowKit Go.Maps

def f4 (x : Int × Int × Int × Int) : List Int := [x.1, x.2.1, x.2.2.1, x.2.2.2]
def f3 (x : Int × Int × Int) : List Int := [x.1, x.2.1, x.2.2]
def flatL (v : Vis) (l : List (Int × Int × Int)) : List Int := v.rm ++ v.tr.flatMap f4 ++ v.ar.flatMap f3 ++ l.flatMap f3
theorem flat_take4 {l : List (Int × Int × Int × Int)} {k : Nat} (hk : k < l.length) : (l.take (k + 1)).flatMap f4 = (l.take k).flatMap f4 ++ [l[k].1, l[k].2.1, l[k].2.2.1, l[k].2.2.2] := by
  rw [List.take_succ_eq_append_getElem hk, List.flatMap_append]; simp [f4]
theorem flat_take3 {l : List (Int × Int × Int)} {k : Nat} (hk : k < l.length) : (l.take (k + 1)).flatMap f3 = (l.take k).flatMap f3 ++ [l[k].1, l[k].2.1, l[k].2.2] := by
  rw [List.take_succ_eq_append_getElem hk, List.flatMap_append]; simp [f3]
set_option maxRecDepth 100000 in
set_option maxHeartbeats 8000000 in
theorem flat25 (v : Vis) (A1 A2 A3 AL : Option Addr) (q1 q2 q3 ql : Nat) (l : List (Int × Int × Int)) (s0 s1 : Nat) (w : World) (hv : v.rm.length + v.tr.length + v.ar.length ≤ 40) (hl : l.length ≤ 40)
    (b0 : Box w s0 [.slice A1 v.rm.length q1, .slice A2 v.tr.length q2, .slice A3 v.ar.length q3]) (b1 : Box w s1 [.slice AL l.length ql]) (hI : VisAt w w.heap.size v A1 A2 A3) (hL : Threes w w.heap.size AL l) :
    Calls Tryd.prog 25 #[ptr s0, ptr s1] w fun e w' => ∃ r, e = .returned r ∧ w'.ownsRow w.heap.size 3 1 r (flatL v l).length ((flatL v l).map I) ∧ Below w.heap.size w w' := by
  have HX : Hid (∀ W, Below w.heap.size w W → (W.cell? ⟨s0, 0, none⟩ = some (.slice A1 v.rm.length q1) ∧ W.cell? ⟨s0, 1, none⟩ = some (.slice A2 v.tr.length q2) ∧ W.cell? ⟨s0, 2, none⟩ = some (.slice A3 v.ar.length q3)) ∧ W.cell? ⟨s1, 0, none⟩ = some (.slice AL l.length ql) ∧ VisAt W w.heap.size v A1 A2 A3 ∧ Threes W w.heap.size AL l) := Lib.hid fun W h =>
    ⟨⟨((b0.call h).at_ 0 _ rfl).1, ((b0.call h).at_ 1 _ rfl).1, ((b0.call h).at_ 2 _ rfl).1⟩, ((b1.call h).at_ 0 _ rfl).1, hI.below h, hL.below h⟩
  have z0 := b0.1
  have z1 := b1.1
  obtain ⟨⟨x0, x1, x2⟩, x3, _⟩ := HX.out w (Below.refl _ _)
  obtain ⟨i0, hi0, hi1, hi2, hi3⟩ := info_parts info3
  have hrm := Lib.hid (ints_at (hI.rm.below ((Below.refl w.heap.size w).alloc (Nat.le_refl _) (.cells #[] 3))))
  have hro : (w.alloc (.cells #[] 3)).ownsRow w.heap.size 3 1 (.slice (some ⟨w.heap.size, 0, none⟩) 0 0) 0 [] := World.ownsRow_made w #[] 0 (Nat.le_refl _) (Nat.zero_le _) (by simp)
  have hB0 : Below w.heap.size w (w.alloc (.cells #[] 3)) := below1 w _
  clear b0 b1 hI hL
  go_enter Tryd.func25, Tryd.ntmps25
  go_upto_if 17 with (first
    | (at_builtin; refine wpList_append_any _ rfl _ _ 22 rfl w.heap.size 3 i0 (I 0) 1 8 Tryd.underlying22 hi0 hi1 hi2 hi3 rfl (by decide) _ 0 [] rfl hro A1 v.rm.length q1 (v.rm.map I) rfl (by simp) hrm.out (by simp [Value.oneCell']) (by unfold maxLen; omega) (by omega) hB0.size ?_; intro r1 w1 ho1 hg1; have hB1 : Below w.heap.size w w1 := hB0.grown hg1 hB0.size (fun g e => (hro.lt g e).1); rw [Nat.zero_add, List.nil_append] at ho1; obtain ⟨⟨y0, y1, y2⟩, y3, _⟩ := HX.out w1 hB1; clear hrm hro hB0 hg1 x0 x1 x2 x3)
    | fail)
  go_loopw [17, 3] (fun i r wr => ∃ (k : Nat) (xs : List Int), i = I k ∧ k ≤ v.tr.length ∧ xs = v.rm ++ (v.tr.take k).flatMap f4 ∧ xs.length ≤ v.rm.length + 4 * k ∧ Hid (Below w.heap.size w wr) ∧ Hid (wr.ownsRow w.heap.size 3 1 r xs.length (xs.map I))) (fun i _ _ => v.tr.length - (intOf i).toNat)
  case atStart => exact ⟨0, v.rm, rfl, by omega, by simp, by omega, Lib.hid hB1, Lib.hid ho1⟩
  case round =>
    obtain ⟨k, xs, rfl, hk, hxs, hxl, HB, HO⟩ := hrel
    clear hB1 ho1 y0 y1 y2 y3
    have hzr := HB.out.size
    by_cases hlt : k < v.tr.length
    · obtain ⟨bb, oo, hA, hbb, hc⟩ := (HX.out wr HB.out).2.2.1.tr (by omega)
      subst hA
      obtain ⟨c0, c1, c2, c3⟩ := hc k hlt
      clear hc
      have HT := Lib.hid (flat_take4 hlt)
      obtain ⟨ya, hya⟩ : ∃ z, v.tr[k].1 = z := ⟨_, rfl⟩
      obtain ⟨yb, hyb⟩ : ∃ z, v.tr[k].2.1 = z := ⟨_, rfl⟩
      obtain ⟨yc, hyc⟩ : ∃ z, v.tr[k].2.2.1 = z := ⟨_, rfl⟩
      obtain ⟨yd, hyd⟩ : ∃ z, v.tr[k].2.2.2 = z := ⟨_, rfl⟩
      rw [hya, hyb, hyc, hyd] at HT
      rw [hya] at c0
      rw [hyb] at c1
      rw [hyc] at c2
      rw [hyd] at c3
      have k0 : (0 : Int) ≤ (k : Int) := by omega
      have k1 : (k : Int) < (v.tr.length : Int) := by omega
      have hbw : bb < wr.heap.size := by omega
      have hnews : ∀ j u, ([I ya, I yb, I yc, I yd] : List Value)[j]? = some u → ((wr.alloc (.cells #[I ya, I yb, I yc, I yd] 51)).alloc (.cells #[I ya, I yb, I yc, I yd] 3)).cell? ((⟨wr.heap.size + 1, 0, none⟩ : Addr).add j) = some u := by
        have h := cells_new (wr.alloc (.cells #[I ya, I yb, I yc, I yd] 51)) [I ya, I yb, I yc, I yd] 3
        rw [World.size_alloc] at h
        exact h
      have hown := (HO.out.alloc (.cells #[I ya, I yb, I yc, I yd] 51)).alloc (.cells #[I ya, I yb, I yc, I yd] 3)
      have hBn : Below w.heap.size w ((wr.alloc (.cells #[I ya, I yb, I yc, I yd] 51)).alloc (.cells #[I ya, I yb, I yc, I yd] 3)) := (HB.out.alloc hzr _).alloc (by simp; omega) _
      clear hya hyb hyc hyd
      go_wp2_with (first
        | (at_builtin; refine wpList_append_any _ rfl _ _ 22 rfl w.heap.size 3 i0 (I 0) 1 8 Tryd.underlying22 hi0 hi1 hi2 hi3 rfl (by decide) _ xs.length (xs.map I) rfl hown (some ⟨wr.heap.size + 1, 0, none⟩) 4 4 [I ya, I yb, I yc, I yd] rfl rfl (fun _ => ⟨_, rfl, hnews⟩) (by simp [Value.oneCell']) (by unfold maxLen; omega) (by omega) hBn.size ?_; intro r1 w1 ho1 hg1; have HB1 := Lib.hid (hBn.grown hg1 hBn.size (fun g e => (hown.lt g e).1)); have HO1 := Lib.hid ho1; clear ho1 hg1 hown hBn hnews)
        | fail)
      go_roundw
      case rel => exact ⟨k + 1, xs ++ [ya, yb, yc, yd], by go_num, by omega, by rw [hxs, HT.out, List.append_assoc], by simp; omega, HB1, Lib.hid (by simpa using HO1.out)⟩
      case measure => simp [intOf]; omega
    · obtain rfl : k = v.tr.length := by omega
      have k1 : ¬ (v.tr.length : Int) < (v.tr.length : Int) := by omega
      rw [List.take_length] at hxs
      obtain ⟨⟨y0, y1, y2⟩, y3, _⟩ := HX.out wr HB.out
      go_upto_if 36 with (fail)
      go_loopw [36, 3] (fun i r wr => ∃ (k : Nat) (xs : List Int), i = I k ∧ k ≤ v.ar.length ∧ xs = (v.rm ++ v.tr.flatMap f4) ++ (v.ar.take k).flatMap f3 ∧ xs.length ≤ v.rm.length + 4 * v.tr.length + 3 * k ∧ Hid (Below w.heap.size w wr) ∧ Hid (wr.ownsRow w.heap.size 3 1 r xs.length (xs.map I))) (fun i _ _ => v.ar.length - (intOf i).toNat)
      case atStart => exact ⟨0, xs, rfl, by omega, by rw [hxs]; simp, by omega, HB, HO⟩
      case round =>
        obtain ⟨k, xs, rfl, hk, hxs, hxl, HB, HO⟩ := hrel
        skip
        have hzr := HB.out.size
        by_cases hlt : k < v.ar.length
        · obtain ⟨bb, oo, hA, hbb, hc⟩ := (HX.out wr HB.out).2.2.1.ar (by omega)
          subst hA
          obtain ⟨c0, c1, c2⟩ := hc k hlt
          clear hc
          have HT := Lib.hid (flat_take3 hlt)
          obtain ⟨ya, hya⟩ : ∃ z, v.ar[k].1 = z := ⟨_, rfl⟩
          obtain ⟨yb, hyb⟩ : ∃ z, v.ar[k].2.1 = z := ⟨_, rfl⟩
          obtain ⟨yc, hyc⟩ : ∃ z, v.ar[k].2.2 = z := ⟨_, rfl⟩
          rw [hya, hyb, hyc] at HT
          rw [hya] at c0
          rw [hyb] at c1
          rw [hyc] at c2
          have k0 : (0 : Int) ≤ (k : Int) := by omega
          have k1 : (k : Int) < (v.ar.length : Int) := by omega
          have hbw : bb < wr.heap.size := by omega
          have hnews : ∀ j u, ([I ya, I yb, I yc] : List Value)[j]? = some u → ((wr.alloc (.cells #[I ya, I yb, I yc] 49)).alloc (.cells #[I ya, I yb, I yc] 3)).cell? ((⟨wr.heap.size + 1, 0, none⟩ : Addr).add j) = some u := by
            have h := cells_new (wr.alloc (.cells #[I ya, I yb, I yc] 49)) [I ya, I yb, I yc] 3
            rw [World.size_alloc] at h
            exact h
          have hown := (HO.out.alloc (.cells #[I ya, I yb, I yc] 49)).alloc (.cells #[I ya, I yb, I yc] 3)
          have hBn : Below w.heap.size w ((wr.alloc (.cells #[I ya, I yb, I yc] 49)).alloc (.cells #[I ya, I yb, I yc] 3)) := (HB.out.alloc hzr _).alloc (by simp; omega) _
          clear hya hyb hyc
          go_wp2_with (first
            | (at_builtin; refine wpList_append_any _ rfl _ _ 22 rfl w.heap.size 3 i0 (I 0) 1 8 Tryd.underlying22 hi0 hi1 hi2 hi3 rfl (by decide) _ xs.length (xs.map I) rfl hown (some ⟨wr.heap.size + 1, 0, none⟩) 3 3 [I ya, I yb, I yc] rfl rfl (fun _ => ⟨_, rfl, hnews⟩) (by simp [Value.oneCell']) (by unfold maxLen; omega) (by omega) hBn.size ?_; intro r1 w1 ho1 hg1; have HB1 := Lib.hid (hBn.grown hg1 hBn.size (fun g e => (hown.lt g e).1)); have HO1 := Lib.hid ho1; clear ho1 hg1 hown hBn hnews)
            | fail)
          go_roundw
          case rel => exact ⟨k + 1, xs ++ [ya, yb, yc], by go_num, by omega, by rw [hxs, HT.out, List.append_assoc], by simp; omega, HB1, Lib.hid (by simpa using HO1.out)⟩
          case measure => simp [intOf]; omega
        · obtain rfl : k = v.ar.length := by omega
          have k1 : ¬ (v.ar.length : Int) < (v.ar.length : Int) := by omega
          rw [List.take_length] at hxs
          obtain ⟨⟨y0, y1, y2⟩, y3, _⟩ := HX.out wr HB.out
          go_upto_if 52 with (fail)
          go_loopw [52, 3] (fun i r wr => ∃ (k : Nat) (xs : List Int), i = I k ∧ k ≤ l.length ∧ xs = (v.rm ++ v.tr.flatMap f4 ++ v.ar.flatMap f3) ++ (l.take k).flatMap f3 ∧ xs.length ≤ v.rm.length + 4 * v.tr.length + 3 * v.ar.length + 3 * k ∧ Hid (Below w.heap.size w wr) ∧ Hid (wr.ownsRow w.heap.size 3 1 r xs.length (xs.map I))) (fun i _ _ => l.length - (intOf i).toNat)
          case atStart => exact ⟨0, xs, rfl, by omega, by rw [hxs]; simp, by omega, HB, HO⟩
          case round =>
            obtain ⟨k, xs, rfl, hk, hxs, hxl, HB, HO⟩ := hrel
            skip
            have hzr := HB.out.size
            by_cases hlt : k < l.length
            · obtain ⟨bb, oo, hA, hbb, hc⟩ := (HX.out wr HB.out).2.2.2 (by omega)
              subst hA
              obtain ⟨c0, c1, c2⟩ := hc k hlt
              clear hc
              have HT := Lib.hid (flat_take3 hlt)
              obtain ⟨ya, hya⟩ : ∃ z, l[k].1 = z := ⟨_, rfl⟩
              obtain ⟨yb, hyb⟩ : ∃ z, l[k].2.1 = z := ⟨_, rfl⟩
              obtain ⟨yc, hyc⟩ : ∃ z, l[k].2.2 = z := ⟨_, rfl⟩
              rw [hya, hyb, hyc] at HT
              rw [hya] at c0
              rw [hyb] at c1
              rw [hyc] at c2
              have k0 : (0 : Int) ≤ (k : Int) := by omega
              have k1 : (k : Int) < (l.length : Int) := by omega
              have hbw : bb < wr.heap.size := by omega
              have hnews : ∀ j u, ([I ya, I yb, I yc] : List Value)[j]? = some u → ((wr.alloc (.cells #[I ya, I yb, I yc] 56)).alloc (.cells #[I ya, I yb, I yc] 3)).cell? ((⟨wr.heap.size + 1, 0, none⟩ : Addr).add j) = some u := by
                have h := cells_new (wr.alloc (.cells #[I ya, I yb, I yc] 56)) [I ya, I yb, I yc] 3
                rw [World.size_alloc] at h
                exact h
              have hown := (HO.out.alloc (.cells #[I ya, I yb, I yc] 56)).alloc (.cells #[I ya, I yb, I yc] 3)
              have hBn : Below w.heap.size w ((wr.alloc (.cells #[I ya, I yb, I yc] 56)).alloc (.cells #[I ya, I yb, I yc] 3)) := (HB.out.alloc hzr _).alloc (by simp; omega) _
              clear hya hyb hyc
              go_wp2_with (first
                | (at_builtin; refine wpList_append_any _ rfl _ _ 22 rfl w.heap.size 3 i0 (I 0) 1 8 Tryd.underlying22 hi0 hi1 hi2 hi3 rfl (by decide) _ xs.length (xs.map I) rfl hown (some ⟨wr.heap.size + 1, 0, none⟩) 3 3 [I ya, I yb, I yc] rfl rfl (fun _ => ⟨_, rfl, hnews⟩) (by simp [Value.oneCell']) (by unfold maxLen; omega) (by omega) hBn.size ?_; intro r1 w1 ho1 hg1; have HB1 := Lib.hid (hBn.grown hg1 hBn.size (fun g e => (hown.lt g e).1)); have HO1 := Lib.hid ho1; clear ho1 hg1 hown hBn hnews)
                | fail)
              go_roundw
              case rel => exact ⟨k + 1, xs ++ [ya, yb, yc], by go_num, by omega, by rw [hxs, HT.out, List.append_assoc], by simp; omega, HB1, Lib.hid (by simpa using HO1.out)⟩
              case measure => simp [intOf]; omega
            · obtain rfl : k = l.length := by omega
              have k1 : ¬ (l.length : Int) < (l.length : Int) := by omega
              rw [List.take_length] at hxs
              obtain ⟨⟨y0, y1, y2⟩, y3, _⟩ := HX.out wr HB.out
              go_wp2_with (fail)
              have h := HO.out
              rw [hxs] at h
              go_ret
              exact ⟨_, rfl, h, HB.out⟩
end Go.Proofs.YtomfnldlnoiloaaDoor
