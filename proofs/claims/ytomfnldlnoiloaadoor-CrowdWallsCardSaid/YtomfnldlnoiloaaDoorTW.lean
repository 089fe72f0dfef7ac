/- CrowdWalls: the walk. Printed by mkTW.py. -/
import Derived.Test.YtomfnldlnoiloaaDoorF2
import Derived.Test.YtomfnldlnoiloaaDoorF3
import Derived.Test.YtomfnldlnoiloaaDoorV6
import Derived.Test.YtomfnldlnoiloaaDoorTh
import Derived.Test.YtomfnldlnoiloaaDoorOw
namespace Go.Proofs.YtomfnldlnoiloaaDoor
set_option linter.unusedVariables false
set_option linter.unusedSimpArgs false
open Go Go.RowKit Go.Maps

theorem flat2_src {W : World} {B : Nat} {A : Option Addr} {xs : List (Int × Int)} (h : Twos W B A xs) : 0 < xs.length → ∃ ad, A = some ad ∧ ∀ j u, (flat2 xs)[j]? = some u → W.cell? (ad.add j) = some u := fun h0 => by
  obtain ⟨b, off, rfl, _, hc⟩ := h h0
  refine ⟨_, rfl, fun j u hj => ?_⟩
  have hk : j / 2 < xs.length := by
    have := (List.getElem?_eq_some_iff.1 hj).1
    rw [flat2_len] at this
    omega
  obtain ⟨c0, c1⟩ := hc (j / 2) hk
  obtain ⟨d0, d1⟩ := flat2_get xs (j / 2) hk
  rw [Addr.add_lit]
  rcases Nat.mod_two_eq_zero_or_one j with e | e
  · have e2 : j / 2 * 2 = j := by omega
    rw [e2] at d0 c0
    rw [d0] at hj; cases hj; exact c0
  · have e2 : j / 2 * 2 + 1 = j := by omega
    rw [e2] at d1
    rw [show off + j / 2 * 2 + 1 = off + j by omega] at c1
    rw [d1] at hj; cases hj; exact c1
theorem twos_take {W : World} {B n : Nat} {A : Option Addr} {l : List (Int × Int)} (h : Twos W B A l) : Twos W B A (l.take n) := fun h0 => by
  rw [List.length_take] at h0
  obtain ⟨b, off, h1, h2, h3⟩ := h (by omega)
  refine ⟨b, off, h1, h2, fun k hk => ?_⟩
  rw [List.length_take] at hk
  rw [List.getElem_take]
  exact h3 k (by omega)
theorem twos_drop {W : World} {B n b off : Nat} {l : List (Int × Int)} (h : Twos W B (some ⟨b, off, none⟩) l) : Twos W B (some ⟨b, off + n * 2, none⟩) (l.drop n) := fun h0 => by
  rw [List.length_drop] at h0
  obtain ⟨b', off', h1, h2, h3⟩ := h (by omega)
  cases h1
  refine ⟨b, _, rfl, h2, fun k hk => ?_⟩
  rw [List.length_drop] at hk
  rw [List.getElem_drop]
  have := h3 (n + k) (by omega)
  rw [show off + n * 2 + k * 2 = off + (n + k) * 2 by omega]
  exact this
set_option maxRecDepth 100000 in
set_option maxHeartbeats 16000000 in
theorem walls_any (v : Vis) (A1 A2 A3 : Option Addr) (q1 q2 q3 : Nat) (AL : Option Addr) (ql : Nat) (l : List Mv) (p m : Int) (AY : Option Addr) (qy : Nat) (ys : List Int) (w : World) (hG : GlobOk w) (hI : VisAt w w.heap.size v A1 A2 A3) (h64 : Vis64 v) (hL : Threes w w.heap.size AL l) (hll : l.length ≤ 9223372036854775807)
    (hY : U32s w w.heap.size AY ys) (hyl : ys.length ≤ 9223372036854775807) (hlq : l.length ≤ ql) (hbig : v.rm.length + v.tr.length + v.ar.length ≤ 1000000000000000) :
    Calls Tryd.prog 5 #[visV v A1 A2 A3 q1 q2 q3, .slice AL l.length ql, I p, I m, .slice AY ys.length qy] w fun e w' => e = .returned (.bool true) ∧ Below w.heap.size w w' := by
  obtain ⟨w2, hw2⟩ : ∃ w2, w.alloc (.cells #[.slice A1 v.rm.length q1, .slice A2 v.tr.length q2, .slice A3 v.ar.length q3] 26) = w2 := ⟨_, rfl⟩
  have hz2 : w2.heap.size = w.heap.size + 1 := by rw [← hw2]; simp
  have hB2 : Below w.heap.size w w2 := by rw [← hw2]; exact below1 _ _
  have b1 : Box w2 w.heap.size [.slice A1 v.rm.length q1, .slice A2 v.tr.length q2, .slice A3 v.ar.length q3] := by rw [← hw2]; exact Box.new w [.slice A1 v.rm.length q1, .slice A2 v.tr.length q2, .slice A3 v.ar.length q3] 26
  have HX : Hid (∀ W, Below w2.heap.size w2 W → (W.cell? ⟨w.heap.size, 0, none⟩ = some (.slice A1 v.rm.length q1) ∧ W.cell? ⟨w.heap.size, 1, none⟩ = some (.slice A2 v.tr.length q2) ∧ W.cell? ⟨w.heap.size, 2, none⟩ = some (.slice A3 v.ar.length q3)) ∧ VisAt W W.heap.size v A1 A2 A3 ∧ Threes W W.heap.size AL l ∧ GlobOk W ∧ Below w.heap.size w W ∧ U32s W W.heap.size AY ys) := Lib.hid fun W h => by
    have hb := hB2.trans (h.mono hB2.size)
    exact ⟨⟨((b1.call h).at_ 0 _ rfl).1, ((b1.call h).at_ 1 _ rfl).1, ((b1.call h).at_ 2 _ rfl).1⟩, (hI.below hb).more hb.size, (hL.below hb).more hb.size, hG.below hb hG.z, hb, (hY.below hb).more hb.size⟩
  have HB := Lib.hid (Below.refl w2.heap.size w2)
  obtain ⟨⟨x0, x1, x2⟩, _⟩ := HX.out w2 HB.out
  have H12 : Hid (∀ W, Calls Tryd.prog 12 #[visV v A1 A2 A3 q1 q2 q3] W (RetFew (v.rm.length + v.tr.length + v.ar.length ≤ 40) W)) := Lib.hid fun W => great12 v A1 A2 A3 q1 q2 q3 W hbig
  have H13 : Hid (∀ W, GlobOk W → Calls Tryd.prog 13 #[] W fun e w' => e = .returned (.bool true) ∧ Below W.heap.size W w') := Lib.hid alive13
  have H14 : Hid (∀ (A : Option Addr) (l' : List Mv) (q' : Nat) W, Below w2.heap.size w2 W → Threes W W.heap.size A l' → Calls Tryd.prog 14 #[visV v A1 A2 A3 q1 q2 q3, .slice A l'.length q', I p, I m] W fun e w' => e = .returned (.tuple #[I (seeV v l' p m).1, I (seeV v l' p m).2.1, I (seeV v l' p m).2.2]) ∧ Below W.heap.size W w') := Lib.hid fun A l' q' W h hl' => see14 v h64 A1 A2 A3 A q1 q2 q3 q' l' p m W (HX.out W h).2.1 hl'
  have H16 : Hid (∀ W, Below w2.heap.size w2 W → Calls Tryd.prog 16 #[visV v A1 A2 A3 q1 q2 q3, I p, I m] W fun e w' => ∃ val : Int, e = .returned (.tuple #[I val, I (errN v p m)]) ∧ MostAns v p m val ∧ Below W.heap.size W w') := Lib.hid fun W h => most16 v h64 A1 A2 A3 q1 q2 q3 p m W (HX.out W h).2.1 (HX.out W h).2.2.2.1
  have H18 : Hid (∀ W, Below w2.heap.size w2 W → Calls Tryd.prog 18 #[visV v A1 A2 A3 q1 q2 q3, I p, I m] W fun e w' => ∃ (A : Option Addr) (c : Nat) (la : List (Int × Int)), e = .returned (.tuple #[.slice A la.length c, I (errN v p m)]) ∧ WallAns v p m la ∧ StandsAt w' W.heap.size A la ∧ Below W.heap.size W w' ∧ la.length ≤ c) := Lib.hid fun W h => wall18 v h64 A1 A2 A3 q1 q2 q3 p m W (HX.out W h).2.1 (HX.out W h).2.2.2.1
  have H21 : Hid (∀ W, Below w2.heap.size w2 W → Calls Tryd.prog 21 #[visV v A1 A2 A3 q1 q2 q3, I p, I m] W fun e w' => e = .returned (I (errN v p m)) ∧ Below W.heap.size W w') := Lib.hid fun W h => errors21 v h64 A1 A2 A3 q1 q2 q3 p m W (HX.out W h).2.1
  clear b1 hB2 hI hL hG h64 hbig hY
  have HALL : Hid True := Lib.hid trivial
  by_cases hl40 : (40 : Int) < (l.length : Int)
  · go_enter Tryd.func5, Tryd.ntmps5
    go_wp2_with (first
      | (go_at_call 12; refine (H12.out _).mono ?_; rintro e w3 ⟨b, rfl, hb, hB⟩; replace HB := Lib.hid (HB.out.trans (hB.mono HB.out.size)); clear x0 x1 x2; obtain ⟨⟨x0, x1, x2⟩, _⟩ := HX.out _ HB.out; clear hB hb)
      | (go_at_call 13; refine (H13.out _ (HX.out _ HB.out).2.2.2.1).mono ?_; rintro e w9 ⟨rfl, hB⟩; replace HB := Lib.hid (HB.out.trans (hB.mono HB.out.size)); clear x0 x1 x2; obtain ⟨⟨x0, x1, x2⟩, _⟩ := HX.out _ HB.out; clear hB)
      | fail)
    all_goals (refine bodyPost_ret (v := .bool true) ?_ rfl ⟨rfl, (HX.out _ HB.out).2.2.2.2.1⟩; simp [results, Tryd.results5, go_sem]; done)
  by_cases hm30 : (30 : Int) < m
  · go_enter Tryd.func5, Tryd.ntmps5
    go_wp2_with (first
      | (go_at_call 12; refine (H12.out _).mono ?_; rintro e w3 ⟨b, rfl, hb, hB⟩; replace HB := Lib.hid (HB.out.trans (hB.mono HB.out.size)); clear x0 x1 x2; obtain ⟨⟨x0, x1, x2⟩, _⟩ := HX.out _ HB.out; clear hB hb)
      | (go_at_call 13; refine (H13.out _ (HX.out _ HB.out).2.2.2.1).mono ?_; rintro e w9 ⟨rfl, hB⟩; replace HB := Lib.hid (HB.out.trans (hB.mono HB.out.size)); clear x0 x1 x2; obtain ⟨⟨x0, x1, x2⟩, _⟩ := HX.out _ HB.out; clear hB)
      | fail)
    all_goals (refine bodyPost_ret (v := .bool true) ?_ rfl ⟨rfl, (HX.out _ HB.out).2.2.2.2.1⟩; simp [results, Tryd.results5, go_sem]; done)
  by_cases hy0 : ys.length = 0
  · have hy0i : ((ys.length : Int) == 0) = true := by simp [hy0]
    go_enter Tryd.func5, Tryd.ntmps5
    go_wp2_with (first
      | (go_at_call 12; refine (H12.out _).mono ?_; rintro e w3 ⟨b, rfl, hb, hB⟩; replace HB := Lib.hid (HB.out.trans (hB.mono HB.out.size)); clear x0 x1 x2; obtain ⟨⟨x0, x1, x2⟩, _⟩ := HX.out _ HB.out; clear hB hb)
      | (go_at_call 13; refine (H13.out _ (HX.out _ HB.out).2.2.2.1).mono ?_; rintro e w9 ⟨rfl, hB⟩; replace HB := Lib.hid (HB.out.trans (hB.mono HB.out.size)); clear x0 x1 x2; obtain ⟨⟨x0, x1, x2⟩, _⟩ := HX.out _ HB.out; clear hB)
      | fail)
    all_goals (refine bodyPost_ret (v := .bool true) ?_ rfl ⟨rfl, (HX.out _ HB.out).2.2.2.2.1⟩; simp [results, Tryd.results5, go_sem]; done)
  have hy0i : ((ys.length : Int) == 0) = false := by simp; exact fun h => hy0 (by rw [h]; rfl)
  by_cases he : errN v p m = 0
  · obtain ⟨hv, hp, hm0, hm60⟩ := err_zero he
    obtain ⟨pn, rfl⟩ : ∃ n : Nat, p = n := ⟨p.toNat, by omega⟩
    obtain ⟨mn, rfl⟩ : ∃ n : Nat, m = n := ⟨m.toNat, by omega⟩
    have hpn : pn < v.n := by omega
    have hpn' : pn < v.rm.length := hpn
    have HV := Lib.hid hv
    have H22 : Hid (∀ (A : Option Addr) (c : Nat) (xs : List (Int × Int)) W, Below w2.heap.size w2 W → Twos W W.heap.size A xs → xs.length ≤ 1000 → Calls Tryd.prog 22 #[visV v A1 A2 A3 q1 q2 q3, .slice A xs.length c, I pn, I mn] W fun e w' => e = .returned (I (widthW v (hasL xs) pn mn)) ∧ Below W.heap.size W w') := Lib.hid fun A c xs W h ht hx => width22 v HV.out A1 A2 A3 q1 q2 q3 A c xs pn mn hpn (by omega) (by omega) W (HX.out W h).2.1 ht
    rw [he] at H16 H18 H21
    have HE := Lib.hid he
    obtain ⟨rb, ro, hA1, hrb, hrc⟩ := (HX.out _ HB.out).2.1.rm (by omega)
    subst hA1
    have rc := hrc pn hpn'
    have hro : v.rm[pn] = v.room pn := by simp [Vis.room, List.getD_eq_getElem?_getD, hpn']
    rw [hro] at rc
    have HRC : Hid (∀ W, Below w2.heap.size w2 W → W.cell? ⟨rb, ro + pn, none⟩ = some (I (v.room pn))) := Lib.hid fun W h => (h.cell (p := ⟨rb, _, none⟩) hrb).trans rc
    have p0 : (0 : Int) ≤ (pn : Int) := by omega
    have p1 : (pn : Int) < (v.rm.length : Int) := by omega
    have hn := hv.n
    unfold Vis.n at hn
    clear hrc hro rc he hv
    go_enter Tryd.func5, Tryd.ntmps5
    go_wp2_with (first
      | (go_at_call 12; refine (H12.out _).mono ?_; rintro e w3 ⟨b, rfl, hb, hB⟩; replace HB := Lib.hid (HB.out.trans (hB.mono HB.out.size)); clear x0 x1 x2; obtain ⟨⟨x0, x1, x2⟩, _⟩ := HX.out _ HB.out; clear hB hb)
      | (go_at_call 13; refine (H13.out _ (HX.out _ HB.out).2.2.2.1).mono ?_; rintro e w9 ⟨rfl, hB⟩; replace HB := Lib.hid (HB.out.trans (hB.mono HB.out.size)); clear x0 x1 x2; obtain ⟨⟨x0, x1, x2⟩, _⟩ := HX.out _ HB.out; clear hB)
      | (go_at_call 16; refine (H16.out _ HB.out).mono ?_; rintro e w4 ⟨val, rfl, hA, hB⟩; have hEX := hA.1 HE.out; have HEX := Lib.hid hEX; replace HB := Lib.hid (HB.out.trans (hB.mono HB.out.size)); clear x0 x1 x2; obtain ⟨⟨x0, x1, x2⟩, _⟩ := HX.out _ HB.out; clear hB hA hEX)
      | (go_at_call 21; refine (H21.out _ HB.out).mono ?_; rintro e w9 ⟨rfl, hB⟩; have rcz := HRC.out _ HB.out; replace HB := Lib.hid (HB.out.trans (hB.mono HB.out.size)); clear x0 x1 x2; obtain ⟨⟨x0, x1, x2⟩, _⟩ := HX.out _ HB.out; clear hB)
      | (go_at_call 18; refine (H18.out _ HB.out).mono ?_; rintro e w5 ⟨A, c, la, rfl, hA, hT, hB, hcap⟩; have hM := HEX.out; obtain ⟨R, hM⟩ := hM; rw [Int.toNat_natCast, Int.toNat_natCast] at hM; have HM := Lib.hid hM; have hla : la = standsR v mn R := (by obtain ⟨vv, R', h1, h2⟩ := hA.1 HE.out; rw [Int.toNat_natCast, Int.toNat_natCast] at h1; rw [Int.toNat_natCast] at h2; rw [h2, (LeastL.uniq h1 hM).2]); have HLA := Lib.hid hla; have hll2 : la.length ≤ 488 := (by rw [hla]; exact standsR_len HV.out (by omega) R); have hrg := most_range HV.out hpn hM; have HTW := Lib.hid hT.1; have H22w : Hid (∀ W, Below w2.heap.size w2 W → Twos W W.heap.size A la → Calls Tryd.prog 22 #[visV v (some ⟨rb, ro, none⟩) A2 A3 q1 q2 q3, .slice A la.length c, I pn, I mn] W fun e w' => e = .returned (I val) ∧ Below W.heap.size W w') := Lib.hid (fun W h ht => by have := H22.out A c la W h ht (by omega); rw [HLA.out, wall_width HV.out hpn HM.out, ← HLA.out] at this; exact this); replace HB := Lib.hid (HB.out.trans (hB.mono HB.out.size)); clear x0 x1 x2; obtain ⟨⟨x0, x1, x2⟩, _⟩ := HX.out _ HB.out; clear hB hA hT hM hla; have rcz := HRC.out _ HB.out)
      | (go_at_call 22; refine (H22w.out _ HB.out HTW.out).mono ?_; rintro e w6 ⟨rfl, hB⟩; replace HTW := Lib.hid ((HTW.out.below hB).more hB.size); replace HB := Lib.hid (HB.out.trans (hB.mono HB.out.size)); clear x0 x1 x2; obtain ⟨⟨x0, x1, x2⟩, _⟩ := HX.out _ HB.out; clear hB rcz; have rcz := HRC.out _ HB.out)
      | fail)
    all_goals first | (refine bodyPost_ret (v := .bool true) ?_ rfl ⟨rfl, (HX.out _ HB.out).2.2.2.2.1⟩; simp [results, Tryd.results5, go_sem]; done) | skip
    have hylen : ¬ (ys.length : Int) = 0 := by omega
    obtain ⟨i0, hi0, hi1, hi2, hi3⟩ := info_parts info46
    have HBw := HB
    go_loopw [94, 15] (fun i r wr => ∃ (q : Nat) (os : List (Int × Int)), i = I q ∧ q ≤ v.rm.length ∧ os.length ≤ q * 31 ∧ Hid (Below w6.heap.size w6 wr) ∧ Hid (wr.ownsRow w6.heap.size 46 2 r os.length (flat2 os))) (fun i _ _ => v.rm.length - (intOf i).toNat)
    case atStart => exact ⟨0, [], rfl, by omega, by simp, Lib.hid (Below.refl _ _), Lib.hid (World.ownsRow_nil _ _ _ _)⟩
    case round =>
      obtain ⟨q, os, rfl, hq, hos, HB1, HO1⟩ := hrel
      clear HB x0 x1 x2 rcz
      have HB := Lib.hid (HBw.out.trans (HB1.out.mono HBw.out.size))
      obtain ⟨⟨x0, x1, x2⟩, _⟩ := HX.out _ HB.out
      have rcz := HRC.out _ HB.out
      by_cases hqn : q < v.rm.length
      · as_aux_lemma =>
          have q0 : (0 : Int) ≤ (q : Int) := by omega
          have qq1 : (q : Int) < (v.rm.length : Int) := by omega
          have hwq : IntKind.i64.wrap ((q : Int) + 1) = (q : Int) + 1 := IntWalk.i64_in _ (by omega)
          have hwm : IntKind.i64.wrap ((mn : Int) + 1) = (mn : Int) + 1 := IntWalk.i64_in _ (by omega)
          have hw31 : IntKind.i64.wrap ((q : Int) * 31) = (q : Int) * 31 := IntWalk.i64_in _ (by omega)
          go_upto_if 100 with (fail)
          go_loopw [99, 15] (fun i r wr => ∃ (t : Nat) (os : List (Int × Int)), i = I t ∧ t ≤ mn + 1 ∧ os.length ≤ q * 31 + t ∧ Hid (Below w6.heap.size w6 wr) ∧ Hid (wr.ownsRow w6.heap.size 46 2 r os.length (flat2 os))) (fun i _ _ => mn + 1 - (intOf i).toNat)
          case atStart => exact ⟨0, os, rfl, by omega, by omega, HB1, HO1⟩
          case round =>
            obtain ⟨t, ot, rfl, ht, hot, HB2, HO2⟩ := hrel
            clear HB x0 x1 x2 rcz HB1 HO1
            have HB := Lib.hid (HBw.out.trans (HB2.out.mono HBw.out.size))
            by_cases htm : t < mn + 1
            · have t0 : (0 : Int) ≤ (t : Int) := by omega
              have t1 : (t : Int) < (mn : Int) + 1 := by omega
              have hwt : IntKind.i64.wrap ((t : Int) + 1) = (t : Int) + 1 := IntWalk.i64_in _ (by omega)
              have hwqt : IntKind.i64.wrap ((q : Int) * 31 + (t : Int)) = (q : Int) * 31 + (t : Int) := IntWalk.i64_in _ (by omega)
              have hwq2 : IntKind.i64.wrap ((q : Int) + (t : Int)) = (q : Int) + (t : Int) := IntWalk.i64_in _ (by omega)
              obtain ⟨s1, hs1⟩ : ∃ s : Nat, (q * 31 + t) % ys.length = s := ⟨_, rfl⟩
              obtain ⟨s2, hs2⟩ : ∃ s : Nat, (q + t) % 32 = s := ⟨_, rfl⟩
              have hsl : s1 < ys.length := by rw [← hs1]; exact Nat.mod_lt _ (by omega)
              have hrem : ((q : Int) * 31 + (t : Int)).tmod (ys.length : Int) = (s1 : Int) := by
                have h : ((q : Int) * 31 + (t : Int)) = ((q * 31 + t : Nat) : Int) := by push_cast; rfl
                rw [h, ← hs1]; rfl
              have hrem2 : ((q : Int) + (t : Int)).tmod 32 = (s2 : Int) := by
                have h : ((q : Int) + (t : Int)) = ((q + t : Nat) : Int) := by push_cast; rfl
                rw [h, ← hs2]; rfl
              have s20 : (0 : Int) ≤ (s2 : Int) := by omega
              have s10 : (0 : Int) ≤ (s1 : Int) := by omega
              have s11 : (s1 : Int) < (ys.length : Int) := by omega
              obtain ⟨yb, yo, hAY, hyb, hyc⟩ := (HX.out _ HB.out).2.2.2.2.2 (by omega)
              subst hAY
              have yc := (hyc s1 hsl).1
              generalize ys[s1] = yv at *
              clear hyc hs1 hs2
              have hown := HO2.out.alloc (.cells #[I q, I t] 46)
              have hBn : Below w6.heap.size w6 (wr.alloc (.cells #[I q, I t] 46)) := HB2.out.alloc HB2.out.size _
              have hcn : ∀ j u, ([I q, I t] : List Value)[j]? = some u → (wr.alloc (.cells #[I q, I t] 46)).cell? ((⟨wr.heap.size, 0, none⟩ : Addr).add j) = some u := cells_new wr [I q, I t] 46
              have hob : ot.length + 1 ≤ 1000 := by omega
              go_wp2_with (first
                | (at_builtin; refine wpList_append_any _ rfl _ _ 36 rfl w6.heap.size 46 i0 (sd 0 0) 2 16 Tryd.underlying36 hi0 hi1 hi2 hi3 rfl (by decide) _ ot.length (flat2 ot) rfl hown (some ⟨wr.heap.size, 0, none⟩) 1 1 [I q, I t] rfl rfl (fun _ => ⟨_, rfl, hcn⟩) (by simp [Value.oneCell']) (by unfold maxLen; omega) (by omega) hBn.size ?_; intro r1 w1 ho1 hg1; have HBz := Lib.hid (hBn.grown hg1 hBn.size (fun g e => (hown.lt g e).1)); have HOz := Lib.hid ho1; clear ho1 hg1 hown hBn hcn)
                | fail)
              · go_roundw
                case rel => exact ⟨t + 1, ot ++ [((q : Int), (t : Int))], by go_num, by omega, by simp; omega, HBz, Lib.hid (by rw [flat2_app]; simpa [flat2] using HOz.out)⟩
                case measure => first | (simp [intOf]; done) | (simp [intOf]; omega)
              · go_roundw
                case rel => exact ⟨t + 1, ot, by go_num, by omega, by omega, HB2, HO2⟩
                case measure => first | (simp [intOf]; done) | (simp [intOf]; omega)
            · obtain rfl : t = mn + 1 := by omega
              have t1 : ¬ (mn : Int) + 1 < (mn : Int) + 1 := by omega
              have t2 : ((mn + 1 : Nat) : Int) = (mn : Int) + 1 := by push_cast; rfl
              go_wp2_with (fail)
              go_roundw
              case rel => exact ⟨q + 1, ot, by go_num, by omega, by omega, HB2, HO2⟩
              case measure => first | (simp [intOf]; done) | (simp [intOf]; omega)
      · have qq1 : ¬ (q : Int) < (v.rm.length : Int) := by omega
        obtain ⟨Ax, cx, hr2, hT2, _⟩ := twos_own HO1.out rfl
        subst hr2
        have HTX := Lib.hid hT2
        have howd := other_width HV.out hpn HM.out (hasL os)
        obtain ⟨wo, how⟩ : ∃ z, widthW v (hasL os) pn mn = z := ⟨_, rfl⟩
        rw [how] at howd
        have H22o : Hid (∀ W, Below w2.heap.size w2 W → Twos W W.heap.size Ax os → Calls Tryd.prog 22 #[visV v (some ⟨rb, ro, none⟩) A2 A3 q1 q2 q3, .slice Ax os.length cx, I pn, I mn] W fun e w' => e = .returned (I wo) ∧ Below W.heap.size W w') := Lib.hid fun W h ht => by
          have := H22.out Ax cx os W h ht (by omega)
          rw [how] at this
          exact this
        replace HTW := Lib.hid ((HTW.out.below HB1.out).more HB1.out.size)
        clear hT2 how HO1 HB1
        go_wp2_with (first
          | (go_at_call 22; refine (H22o.out _ HB.out HTX.out).mono ?_; rintro e w7 ⟨rfl, hB⟩; replace HTW := Lib.hid ((HTW.out.below hB).more hB.size); replace HB := Lib.hid (HB.out.trans (hB.mono HB.out.size)); clear x0 x1 x2; obtain ⟨⟨x0, x1, x2⟩, _⟩ := HX.out _ HB.out; clear hB)
          | fail)
        go_loopw [136] (fun i wr => ∃ j : Nat, i = I j ∧ j ≤ la.length ∧ Hid (Below w7.heap.size w7 wr)) (fun i _ => la.length - (intOf i).toNat)
        case atStart => exact ⟨0, rfl, by omega, Lib.hid (Below.refl _ _)⟩
        case round =>
          obtain ⟨i, rfl, hi, HB1⟩ := hrel
          clear x0 x1 x2 rcz
          have HBr := Lib.hid (HB.out.trans (HB1.out.mono HB.out.size))
          obtain ⟨⟨x0, x1, x2⟩, _⟩ := HX.out _ HBr.out
          by_cases hil : i < la.length
          · obtain ⟨ab, ao, hA, hab, hac⟩ := (HTW.out.below HB1.out) (by omega)
            subst hA
            have hm0 : ∀ x, x ∈ la → x ∈ standsR v mn R := fun x hx => by rw [← HLA.out]; exact hx
            have hmem : la[i] ∈ standsR v mn R := hm0 _ (List.getElem_mem hil)
            obtain ⟨q, t, hq, ht, _, hel⟩ := standsR_mem.1 hmem
            obtain ⟨c0, c1⟩ := hac i hil
            rw [hel] at c0 c1
            dsimp only at c0 c1
            have HLS : Hid (val < widthW v (hasL (la.take i ++ la.drop (i + 1))) pn mn) := Lib.hid (by
              have h0 : i < (standsR v mn R).length := by rw [← HLA.out]; exact hil
              have := less_width HV.out hpn HM.out h0
              rw [← HLA.out] at this
              exact this)
            have i0' : (0 : Int) ≤ (i : Int) := by omega
            have i1' : (i : Int) < (la.length : Int) := by omega
            have hq' : q < v.rm.length := hq
            have k1 : ¬ (q : Int) < 0 := by omega
            have k2 : ¬ (v.rm.length : Int) ≤ (q : Int) := by omega
            have k3 : ¬ (t : Int) < 0 := by omega
            have k4 : ¬ (mn : Int) < (t : Int) := by omega
            have hwi : IntKind.i64.wrap ((i : Int) + 1) = (i : Int) + 1 := IntWalk.i64_in _ (by omega)
            have habz : ab < wr.heap.size := Nat.lt_of_lt_of_le hab HB1.out.size
            have n1 : decide (v.rm.length ≤ q) = false := decide_eq_false (by omega)
            have n2 : decide (mn < t) = false := decide_eq_false (by omega)
            have HBS : Hid (Below wr.heap.size wr (wr.alloc (.cells #[I q, I t] 46))) := Lib.hid (below1 wr _)
            have HSB : Hid (Box (wr.alloc (.cells #[I q, I t] 46)) wr.heap.size [I q, I t]) := Lib.hid (Box.new wr [I q, I t] 46)
            have HPV : Hid (∀ i2 : Nat, i = i2 + 1 → ∃ pq pt : Nat, (pq < q ∨ (pq = q ∧ pt < t)) ∧ wr.cell? ⟨ab, ao + i2 * 2, none⟩ = some (I pq) ∧ wr.cell? ⟨ab, ao + i2 * 2 + 1, none⟩ = some (I pt)) := Lib.hid fun i2 h => by
              subst h
              have hi2 : i2 < la.length := by omega
              have hm2 : la[i2] ∈ standsR v mn R := hm0 _ (List.getElem_mem hi2)
              obtain ⟨pq, pt, _, _, _, hel2⟩ := standsR_mem.1 hm2
              have hpw : la.Pairwise ltT := by rw [HLA.out]; exact standsR_pair v mn R
              have hlt := List.pairwise_iff_getElem.1 hpw i2 (i2 + 1) hi2 hil (by omega)
              rw [hel, hel2] at hlt
              obtain ⟨d0, d1⟩ := hac i2 hi2
              rw [hel2] at d0 d1
              refine ⟨pq, pt, ?_, d0, d1⟩
              unfold ltT at hlt
              dsimp only at hlt
              omega
            clear hac hel hmem
            go_upto_if 141 with (fail)
            go_cut [199] from 141 to 199 (fun v199 wx => v199 = .bool false ∧ Hid (Below w7.heap.size w7 wx))
            case first =>
              as_aux_lemma =>
                rcases Nat.eq_zero_or_pos i with e | e
                · have k5 : ¬ (0 : Int) < (i : Int) := by omega
                  have n3 : decide (0 < i) = false := decide_eq_false (by omega)
                  have HCW : Hid (∀ W, Below (wr.alloc (.cells #[I q, I t] 46)).heap.size (wr.alloc (.cells #[I q, I t] 46)) W → (W.cell? ⟨wr.heap.size, 0, none⟩ = some (I q) ∧ W.cell? ⟨wr.heap.size, 1, none⟩ = some (I t)) ∧ W.cell? ⟨w.heap.size, 0, none⟩ = some (.slice (some ⟨rb, ro, none⟩) v.rm.length q1) ∧ True ∧ True) := Lib.hid fun W h => by
                    have hb := HSB.out.call h
                    exact ⟨⟨(hb.at_ 0 _ rfl).1, (hb.at_ 1 _ rfl).1⟩, (HX.out W (HBr.out.trans ((HBS.out.trans (h.mono HBS.out.size)).mono HBr.out.size))).1.1, trivial, trivial⟩
                  clear e c0 c1 x0 x1 x2
                  refine wp_norm ?_
                  refine (wpIn_wide (n := 9)).1 ?_
                  refine wpIn_region_valsB [some 141, some 142, some 143, some 144, some 145, some 146, some 147, some 148, some 149, some 150, some 151, some 152, some 153, some 154, some 155, some 156, some 157, some 158, some 159, some 160, some 161, some 162, some 163, some 164, some 165, some 166, some 167, some 168, some 169, some 170, some 171, some 172, some 173, some 174, some 175, some 176, some 177, some 178, some 179, some 180, some 181, some 182, some 183, some 184, some 185, some 186, some 187, some 188, some 189, some 190, some 191, some 192, some 193, some 194, some 195, some 196, some 197, some 198, some 199]
                    (nthV [.pointer (some ⟨wr.heap.size, 0, none⟩), I q, .bool false, .bool false, .pointer (some ⟨wr.heap.size, 0, none⟩), I q, .pointer (some ⟨w.heap.size, 0, none⟩), .slice (some ⟨rb, ro, none⟩) v.rm.length q1, I v.rm.length, .bool false, .bool false, .bool false, .pointer (some ⟨wr.heap.size, 1, none⟩), I t, .bool false, .bool false, .bool false, .pointer (some ⟨wr.heap.size, 1, none⟩), I t, I mn, .bool false, .bool false, .bool false, I i, .bool false, .bool false, undef, undef, undef, undef, undef, undef, undef, undef, undef, undef, undef, undef, undef, undef, undef, undef, undef, undef, undef, undef, undef, undef, undef, undef, undef, undef, undef, undef, undef, undef, undef, .bool false, .bool false])
                    [(19, .pointer (some ⟨wr.heap.size, 0, none⟩)), (5, .pointer (some ⟨w.heap.size, 0, none⟩)), (3, I mn), (18, I i), (13, .slice (some ⟨ab, ao, none⟩) la.length c)]
                    (fun W => Below (wr.alloc (.cells #[I q, I t] 46)).heap.size (wr.alloc (.cells #[I q, I t] 46)) W) rfl (by kernel_rfl) (fun _ => trivial) (by kernel_rfl) (by kernel_rfl) (by kernel_rfl) ⟨rfl, rfl, rfl, rfl, rfl, trivial⟩ (fun _ _ _ _ _ h => by cases h.1) (Below.refl _ _).drew ?_ ?_
                  · refine ⟨?_, ?_, ?_, ?_, ?_, ?_, ?_, ?_, ?_, ?_, ?_, ?_, ?_, ?_, ?_, ?_, ?_, ?_, ?_, ?_, ?_, ?_, ?_, ?_, ?_, ?_, ?_, ?_, ?_, ?_, ?_, ?_, ?_, ?_, ?_, ?_, ?_, ?_, ?_, ?_, ?_, ?_, ?_, ?_, ?_, ?_, ?_, ?_, ?_, ?_, ?_, ?_, ?_, ?_, ?_, ?_, ?_, ?_, ?_, trivial⟩
                    all_goals (intro x0 W hC; obtain ⟨⟨n0, n1⟩, n2, n3, n4⟩ := HCW.out _ hC)
                    all_goals first
                      | (refine e_no rfl ?_; rfl)
                      | (refine e_yes rfl ?_; intro b e hb K hK)
                    all_goals first
                      | (refine opE_li rfl hb ?_; simp only [execOp, resolve, Oper.about, envB, lookB, lookV, nthV, List.map_toArray, List.map_cons, List.map_nil, Nat.reduceEqDiff, reduceIte, Nat.succ_ne_zero, Nat.zero_ne_one, Nat.one_ne_zero, Nat.reduceAdd, Nat.zero_add]; go_simp; exact hK _ hC)
                  (intro W hC; have HC := Lib.hid hC; clear hC; simp only [putD, nthV, Act.put, List.setIfInBounds_toArray, List.set_cons_succ, List.set_cons_zero, Nat.zero_add, Nat.reduceAdd])
                  refine ⟨by first | trivial | rfl, ?_⟩
                  go_wp2_with (fail)
                  go_meet
                  exact ⟨rfl, Lib.hid (HB1.out.trans ((HBS.out.trans (HC.out.mono HBS.out.size)).mono HB1.out.size))⟩
                · obtain ⟨i2, hi2⟩ : ∃ i2, i = i2 + 1 := ⟨i - 1, by omega⟩
                  obtain ⟨pq, pt, hpp, d0, d1⟩ := HPV.out i2 hi2
                  have k5 : (0 : Int) < (i : Int) := by omega
                  have n3 : decide (0 < i) = true := decide_eq_true (by omega)
                  have hsub : IntKind.i64.wrap ((i : Int) - 1) = (i2 : Int) := (IntWalk.i64_in _ (by omega)).trans (by omega)
                  have i20 : (0 : Int) ≤ (i2 : Int) := by omega
                  have i21 : (i2 : Int) < (la.length : Int) := by omega
                  have HCW : Hid (∀ W, Below (wr.alloc (.cells #[I q, I t] 46)).heap.size (wr.alloc (.cells #[I q, I t] 46)) W → (W.cell? ⟨wr.heap.size, 0, none⟩ = some (I q) ∧ W.cell? ⟨wr.heap.size, 1, none⟩ = some (I t)) ∧ W.cell? ⟨w.heap.size, 0, none⟩ = some (.slice (some ⟨rb, ro, none⟩) v.rm.length q1) ∧ W.cell? ⟨ab, ao + i2 * 2, none⟩ = some (I pq) ∧ W.cell? ⟨ab, ao + i2 * 2 + 1, none⟩ = some (I pt)) := Lib.hid fun W h => by
                    have hb := HSB.out.call h
                    have hbb := HBS.out.trans (h.mono HBS.out.size)
                    exact ⟨⟨(hb.at_ 0 _ rfl).1, (hb.at_ 1 _ rfl).1⟩, (HX.out W (HBr.out.trans (hbb.mono HBr.out.size))).1.1, (hbb.cell (p := ⟨ab, _, none⟩) habz).trans d0, (hbb.cell (p := ⟨ab, _, none⟩) habz).trans d1⟩
                  clear hi2 e c0 c1 d0 d1 x0 x1 x2
                  rcases hpp with h | ⟨h, h2⟩
                  · have k6 : ¬ (q : Int) < (pq : Int) := by omega
                    have k7 : ((q : Int) == (pq : Int)) = false := beq_eq_false_iff_ne.2 (by omega)
                    have n4 : decide (q < pq) = false := decide_eq_false (by omega)
                    have n5 : (q == pq) = false := beq_eq_false_iff_ne.2 (by omega)
                    clear h
                    refine wp_norm ?_
                    refine (wpIn_wide (n := 9)).1 ?_
                    refine wpIn_region_valsB [some 141, some 142, some 143, some 144, some 145, some 146, some 147, some 148, some 149, some 150, some 151, some 152, some 153, some 154, some 155, some 156, some 157, some 158, some 159, some 160, some 161, some 162, some 163, some 164, some 165, some 166, some 167, some 168, some 169, some 170, some 171, some 172, some 173, some 174, some 175, some 176, some 177, some 178, some 179, some 180, some 181, some 182, some 183, some 184, some 185, some 186, some 187, some 188, some 189, some 190, some 191, some 192, some 193, some 194, some 195, some 196, some 197, some 198, some 199]
                      (nthV [.pointer (some ⟨wr.heap.size, 0, none⟩), I q, .bool false, .bool false, .pointer (some ⟨wr.heap.size, 0, none⟩), I q, .pointer (some ⟨w.heap.size, 0, none⟩), .slice (some ⟨rb, ro, none⟩) v.rm.length q1, I v.rm.length, .bool false, .bool false, .bool false, .pointer (some ⟨wr.heap.size, 1, none⟩), I t, .bool false, .bool false, .bool false, .pointer (some ⟨wr.heap.size, 1, none⟩), I t, I mn, .bool false, .bool false, .bool false, I i, .bool true, .bool true, .pointer (some ⟨wr.heap.size, 0, none⟩), I q, .slice (some ⟨ab, ao, none⟩) la.length c, I i, I i2, .pointer (some ⟨ab, ao + i2 * 2, none⟩), .pointer (some ⟨ab, ao + i2 * 2, none⟩), I pq, .bool false, .bool false, .pointer (some ⟨wr.heap.size, 0, none⟩), I q, .slice (some ⟨ab, ao, none⟩) la.length c, I i, I i2, .pointer (some ⟨ab, ao + i2 * 2, none⟩), .pointer (some ⟨ab, ao + i2 * 2, none⟩), I pq, .bool false, .bool false, undef, undef, undef, undef, undef, undef, undef, undef, undef, .bool false, .bool false, .bool false, .bool false])
                      [(19, .pointer (some ⟨wr.heap.size, 0, none⟩)), (5, .pointer (some ⟨w.heap.size, 0, none⟩)), (3, I mn), (18, I i), (13, .slice (some ⟨ab, ao, none⟩) la.length c)]
                      (fun W => Below (wr.alloc (.cells #[I q, I t] 46)).heap.size (wr.alloc (.cells #[I q, I t] 46)) W) rfl (by kernel_rfl) (fun _ => trivial) (by kernel_rfl) (by kernel_rfl) (by kernel_rfl) ⟨rfl, rfl, rfl, rfl, rfl, trivial⟩ (fun _ _ _ _ _ h => by cases h.1) (Below.refl _ _).drew ?_ ?_
                    · refine ⟨?_, ?_, ?_, ?_, ?_, ?_, ?_, ?_, ?_, ?_, ?_, ?_, ?_, ?_, ?_, ?_, ?_, ?_, ?_, ?_, ?_, ?_, ?_, ?_, ?_, ?_, ?_, ?_, ?_, ?_, ?_, ?_, ?_, ?_, ?_, ?_, ?_, ?_, ?_, ?_, ?_, ?_, ?_, ?_, ?_, ?_, ?_, ?_, ?_, ?_, ?_, ?_, ?_, ?_, ?_, ?_, ?_, ?_, ?_, trivial⟩
                      all_goals (intro x0 W hC; obtain ⟨⟨n0, n1⟩, n2, n3, n4⟩ := HCW.out _ hC)
                      all_goals first
                        | (refine e_no rfl ?_; rfl)
                        | (refine e_yes rfl ?_; intro b e hb K hK)
                      all_goals first
                        | (refine opE_li rfl hb ?_; simp only [execOp, resolve, Oper.about, envB, lookB, lookV, nthV, List.map_toArray, List.map_cons, List.map_nil, Nat.reduceEqDiff, reduceIte, Nat.succ_ne_zero, Nat.zero_ne_one, Nat.one_ne_zero, Nat.reduceAdd, Nat.zero_add]; go_simp; exact hK _ hC)
                    (intro W hC; have HC := Lib.hid hC; clear hC; simp only [putD, nthV, Act.put, List.setIfInBounds_toArray, List.set_cons_succ, List.set_cons_zero, Nat.zero_add, Nat.reduceAdd])
                    refine ⟨by first | trivial | rfl, ?_⟩
                    go_wp2_with (fail)
                    go_meet
                    exact ⟨rfl, Lib.hid (HB1.out.trans ((HBS.out.trans (HC.out.mono HBS.out.size)).mono HB1.out.size))⟩
                  · have h' : q = pq := h.symm
                    clear h
                    subst h'
                    have k8 : ¬ (t : Int) ≤ (pt : Int) := by omega
                    have n6 : decide (t ≤ pt) = false := decide_eq_false (by omega)
                    clear h2
                    refine wp_norm ?_
                    refine (wpIn_wide (n := 9)).1 ?_
                    refine wpIn_region_valsB [some 141, some 142, some 143, some 144, some 145, some 146, some 147, some 148, some 149, some 150, some 151, some 152, some 153, some 154, some 155, some 156, some 157, some 158, some 159, some 160, some 161, some 162, some 163, some 164, some 165, some 166, some 167, some 168, some 169, some 170, some 171, some 172, some 173, some 174, some 175, some 176, some 177, some 178, some 179, some 180, some 181, some 182, some 183, some 184, some 185, some 186, some 187, some 188, some 189, some 190, some 191, some 192, some 193, some 194, some 195, some 196, some 197, some 198, some 199]
                      (nthV [.pointer (some ⟨wr.heap.size, 0, none⟩), I q, .bool false, .bool false, .pointer (some ⟨wr.heap.size, 0, none⟩), I q, .pointer (some ⟨w.heap.size, 0, none⟩), .slice (some ⟨rb, ro, none⟩) v.rm.length q1, I v.rm.length, .bool false, .bool false, .bool false, .pointer (some ⟨wr.heap.size, 1, none⟩), I t, .bool false, .bool false, .bool false, .pointer (some ⟨wr.heap.size, 1, none⟩), I t, I mn, .bool false, .bool false, .bool false, I i, .bool true, .bool true, .pointer (some ⟨wr.heap.size, 0, none⟩), I q, .slice (some ⟨ab, ao, none⟩) la.length c, I i, I i2, .pointer (some ⟨ab, ao + i2 * 2, none⟩), .pointer (some ⟨ab, ao + i2 * 2, none⟩), I q, .bool false, .bool false, .pointer (some ⟨wr.heap.size, 0, none⟩), I q, .slice (some ⟨ab, ao, none⟩) la.length c, I i, I i2, .pointer (some ⟨ab, ao + i2 * 2, none⟩), .pointer (some ⟨ab, ao + i2 * 2, none⟩), I q, .bool true, .bool true, .pointer (some ⟨wr.heap.size, 1, none⟩), I t, .slice (some ⟨ab, ao, none⟩) la.length c, I i, I i2, .pointer (some ⟨ab, ao + i2 * 2, none⟩), .pointer (some ⟨ab, ao + i2 * 2 + 1, none⟩), I pt, .bool false, .bool false, .bool false, .bool false, .bool false])
                      [(19, .pointer (some ⟨wr.heap.size, 0, none⟩)), (5, .pointer (some ⟨w.heap.size, 0, none⟩)), (3, I mn), (18, I i), (13, .slice (some ⟨ab, ao, none⟩) la.length c)]
                      (fun W => Below (wr.alloc (.cells #[I q, I t] 46)).heap.size (wr.alloc (.cells #[I q, I t] 46)) W) rfl (by kernel_rfl) (fun _ => trivial) (by kernel_rfl) (by kernel_rfl) (by kernel_rfl) ⟨rfl, rfl, rfl, rfl, rfl, trivial⟩ (fun _ _ _ _ _ h => by cases h.1) (Below.refl _ _).drew ?_ ?_
                    · refine ⟨?_, ?_, ?_, ?_, ?_, ?_, ?_, ?_, ?_, ?_, ?_, ?_, ?_, ?_, ?_, ?_, ?_, ?_, ?_, ?_, ?_, ?_, ?_, ?_, ?_, ?_, ?_, ?_, ?_, ?_, ?_, ?_, ?_, ?_, ?_, ?_, ?_, ?_, ?_, ?_, ?_, ?_, ?_, ?_, ?_, ?_, ?_, ?_, ?_, ?_, ?_, ?_, ?_, ?_, ?_, ?_, ?_, ?_, ?_, trivial⟩
                      all_goals (intro x0 W hC; obtain ⟨⟨n0, n1⟩, n2, n3, n4⟩ := HCW.out _ hC)
                      all_goals first
                        | (refine e_no rfl ?_; rfl)
                        | (refine e_yes rfl ?_; intro b e hb K hK)
                      all_goals first
                        | (refine opE_li rfl hb ?_; simp only [execOp, resolve, Oper.about, envB, lookB, lookV, nthV, List.map_toArray, List.map_cons, List.map_nil, Nat.reduceEqDiff, reduceIte, Nat.succ_ne_zero, Nat.zero_ne_one, Nat.one_ne_zero, Nat.reduceAdd, Nat.zero_add]; go_simp; exact hK _ hC)
                    (intro W hC; have HC := Lib.hid hC; clear hC; simp only [putD, nthV, Act.put, List.setIfInBounds_toArray, List.set_cons_succ, List.set_cons_zero, Nat.zero_add, Nat.reduceAdd])
                    refine ⟨by first | trivial | rfl, ?_⟩
                    go_wp2_with (fail)
                    go_meet
                    exact ⟨rfl, Lib.hid (HB1.out.trans ((HBS.out.trans (HC.out.mono HBS.out.size)).mono HB1.out.size))⟩
            case rest =>
              obtain ⟨rfl, HBc⟩ := hcut
              have HBw := Lib.hid (HB.out.trans (HBc.out.mono HB.out.size))
              clear x0 x1 x2 HPV HSB HBS c0 c1
              have HTc := Lib.hid ((HTW.out.below HBc.out).more HBc.out.size)
              obtain ⟨i0, hi0, hi1, hi2, hi3⟩ := info_parts info46
              have hcl : i ≤ c := by omega
              have hcl2 : (i : Int) ≤ (c : Int) := by omega
              have hll3 : (i : Int) + 1 ≤ (la.length : Int) := by omega
              have hto : ((i : Int) + 1).toNat = i + 1 := by omega
              have hlo : (0 : Int) ≤ (i : Int) + 1 := by omega
              have hcl3 : (la.length : Int) ≤ (c : Int) := by omega
              have hcl4 : la.length ≤ c := hcap
              have hll5 : i + 1 ≤ la.length := by omega
              go_wp2_with (fail)
              by_cases hcc : c = i + 1
              · subst hcc
                have hcl6 : (i : Int) ≤ (i : Int) + 1 := by omega
                have hcl7 : (la.length : Int) ≤ (i : Int) + 1 := by omega
                have hcl8 : la.length ≤ i + 1 := by omega
                have hcl9 : (0 : Int) ≤ (i : Int) + 1 := by omega
                refine (wpIn_wide (n := 9)).1 ?_
                refine wpIn_region_plan (Plan.ons [1, 2, 3, 5, 6, 7, 8, 0, 4, 9, 10] .fin) [1, 2, 3, 5, 6, 7, 8] (fun W => Below wc.heap.size wc W) [10] rfl (by kernel_rfl) (by kernel_rfl) (fun _ d _ _ _ h => by cases d <;> exact h) (Below.refl _ _).drew ?_
                (refine ordQ_held (.slice (some ⟨ab, ao, none⟩) la.length (i + 1)) rfl rfl rfl rfl (fun W' hC' => ?_) (fun K hK => ?_); (focus (obtain g0 := hC'; go_simp; try exact ⟨rfl, rfl⟩)); go_simp; refine hK _ ?_; clear hK K)
                (refine ordQ_held (I i) rfl rfl rfl rfl (fun W' hC' => ?_) (fun K hK => ?_); (focus (obtain g0 := hC'; go_simp; try exact ⟨rfl, rfl⟩)); go_simp; refine hK _ ?_; clear hK K)
                (refine ordQ_held (.slice (some ⟨ab, ao, none⟩) i (i + 1)) rfl rfl rfl rfl (fun W' hC' => ?_) (fun K hK => ?_); (focus (obtain g0 := hC'; go_simp; try exact ⟨rfl, rfl⟩)); go_simp; refine hK _ ?_; clear hK K)
                (refine ordQ_held (.slice (some ⟨ab, ao, none⟩) la.length (i + 1)) rfl rfl rfl rfl (fun W' hC' => ?_) (fun K hK => ?_); (focus (obtain g0 := hC'; go_simp; try exact ⟨rfl, rfl⟩)); go_simp; refine hK _ ?_; clear hK K)
                (refine ordQ_held (I i) rfl rfl rfl rfl (fun W' hC' => ?_) (fun K hK => ?_); (focus (obtain g0 := hC'; go_simp; try exact ⟨rfl, rfl⟩)); go_simp; refine hK _ ?_; clear hK K)
                (refine ordQ_held (I ((i : Int) + 1)) rfl rfl rfl rfl (fun W' hC' => ?_) (fun K hK => ?_); (focus (obtain g0 := hC'; go_simp; try exact ⟨rfl, rfl⟩)); go_simp; refine hK _ ?_; clear hK K)
                (refine ordQ_held (.slice (some ⟨ab, ao, none⟩) (la.length - (i + 1)) 0) rfl rfl rfl rfl (fun W' hC' => ?_) (fun K hK => ?_); (focus (obtain g0 := hC'; go_simp; try exact ⟨rfl, rfl⟩)); go_simp; refine hK _ ?_; clear hK K)
                refine ordQ_hv rfl rfl rfl (fun K hK => ?_)
                gi_wp2
                refine hK _ _ (fun _ => by (repeat' (first | assumption | exact Below.refl _ _ | refine Below.drew ?_ | refine below_drewN ?_ _ | refine Below.setCell ?_ (by first | omega | (simp; done) | (simp; omega)) _ | refine Below.alloc ?_ (by first | omega | (simp; done) | (simp; omega)) _ | refine Below.trans ?_ (Below.mono (by assumption) (by first | omega | (simp; done) | (simp; omega)))))) ?_
                clear hK K
                have hB4 : Below wc.heap.size wc (wc.alloc (.cells #[] 46)).drew := (below1 wc _).drew
                have hr0 : ((wc.alloc (.cells #[] 46)).drew).ownsRow wc.heap.size 46 2 (.slice (some ⟨wc.heap.size, 0, none⟩) 0 0) 0 [] := (World.ownsRow_made wc #[] 0 (Nat.le_refl _) (Nat.zero_le _) (by simp)).drew
                have hlt1 : (la.take i).length = i := by rw [List.length_take]; omega
                have hlt2 : (la.drop (i + 1)).length = la.length - (i + 1) := List.length_drop
                have hn4 := flat2_src ((twos_take (n := i) HTc.out).below hB4)
                rw [hlt1] at hn4
                refine ordQ_hv rfl rfl rfl (fun K hK => ?_)
                refine opIn_append_any rfl _ _ _ 36 rfl wc.heap.size 46 i0 (sd 0 0) 2 16 Tryd.underlying36 hi0 hi1 hi2 hi3 rfl (by decide) _ 0 [] rfl hr0 (some ⟨ab, ao, none⟩) i (i + 1) (flat2 (la.take i)) rfl (by rw [flat2_len, hlt1]) hn4 (flat2_one _) (by unfold maxLen; omega) (by omega) hB4.size ?_
                intro v5 w5 ho5 hg5
                rw [Nat.zero_add, List.nil_append] at ho5
                have hB5 : Below wc.heap.size wc w5 := hB4.grown hg5 hB4.size (fun k e => (hr0.lt k e).1)
                refine hK _ _ (fun _ => hB5) ?_
                clear hK K
                have hn5 : 0 < 0 → ∃ ad, (some (⟨ab, ao, none⟩ : Addr)) = some ad ∧ ∀ j u, (flat2 (la.drop (i + 1)))[j]? = some u → w5.cell? (ad.add j) = some u := fun h => by omega
                refine ordQ_hv rfl rfl rfl (fun K hK => ?_)
                refine opIn_append_any rfl _ _ _ 36 rfl wc.heap.size 46 i0 (sd 0 0) 2 16 Tryd.underlying36 hi0 hi1 hi2 hi3 rfl (by decide) _ i (flat2 (la.take i)) rfl ho5 (some ⟨ab, ao, none⟩) 0 0 (flat2 (la.drop (i + 1))) (by first | rfl | (go_simp; done)) (by rw [flat2_len, hlt2]; omega) hn5 (flat2_one _) (by unfold maxLen; omega) (by omega) hB5.size ?_
                intro v8 w8 ho8 hg8
                have hB8 : Below wc.heap.size wc w8 := hB5.grown hg8 hB5.size (fun k e => (ho5.lt k e).1)
                refine hK _ _ (fun h => by first | exact hB8 | cases h) ?_
                clear hK K
                (refine ordQ_li rfl rfl rfl (fun K hK => ?_); go_simp; refine hK _ ?_; clear hK K)
                refine ordQ_fin ?_
                rw [← flat2_app, Nat.add_zero] at ho8
                have hll4 : (la.take i ++ la.drop (i + 1)).length = i := by rw [List.length_append, hlt1, hlt2]; omega
                obtain ⟨Az, cz, hv8, hT8, _⟩ := twos_own ho8 hll4
                subst hv8
                have HT8 := Lib.hid hT8
                obtain ⟨less, hless⟩ : ∃ z, la.take i ++ la.drop (i + 1) = z := ⟨_, rfl⟩
                rw [hless] at hll4 HLS
                simp only [hless] at HT8
                have H22l : Hid (∀ W, Below w2.heap.size w2 W → Twos W W.heap.size Az less → Calls Tryd.prog 22 #[visV v (some ⟨rb, ro, none⟩) A2 A3 q1 q2 q3, .slice Az i cz, I pn, I mn] W fun e w' => e = .returned (I (widthW v (hasL less) pn mn)) ∧ Below W.heap.size W w') := Lib.hid fun W h ht => by
                  have := H22.out Az cz less W h ht (by omega)
                  rw [hll4] at this
                  exact this
                obtain ⟨wl, hwl⟩ : ∃ z, widthW v (hasL less) pn mn = z := ⟨_, rfl⟩
                rw [hwl] at H22l HLS
                have hwv := HLS.out
                have HB8 := Lib.hid hB8
                have HB9 := Lib.hid (HBw.out.trans (hB8.mono HBw.out.size))
                obtain ⟨⟨x0, x1, x2⟩, _⟩ := HX.out _ HB9.out
                clear hT8 ho8 hg8 hg5 hB5 hB4 hr0 hn4 hn5 hless hwl ho5 hB8 hll4 hlt1 hlt2 HLS
                go_wp2_with (first
                  | (go_at_call 22; refine (H22l.out _ HB9.out HT8.out).mono ?_; rintro e w11 ⟨rfl, hB⟩; have HB10 := Lib.hid (HB8.out.trans (hB.mono HB8.out.size)); clear hB)
                  | fail)
                go_roundw
                case rel => exact ⟨i + 1, by go_num, by omega, Lib.hid (HBc.out.trans (HB10.out.mono HBc.out.size))⟩
                case measure => first | (simp [intOf]; done) | (simp [intOf]; omega)
              · skip
                refine (wpIn_wide (n := 9)).1 ?_
                refine wpIn_region_plan (Plan.ons [1, 2, 3, 5, 6, 7, 8, 0, 4, 9, 10] .fin) [1, 2, 3, 5, 6, 7, 8] (fun W => Below wc.heap.size wc W) [10] rfl (by kernel_rfl) (by kernel_rfl) (fun _ d _ _ _ h => by cases d <;> exact h) (Below.refl _ _).drew ?_
                (refine ordQ_held (.slice (some ⟨ab, ao, none⟩) la.length c) rfl rfl rfl rfl (fun W' hC' => ?_) (fun K hK => ?_); (focus (obtain g0 := hC'; go_simp; try exact ⟨rfl, rfl⟩)); go_simp; refine hK _ ?_; clear hK K)
                (refine ordQ_held (I i) rfl rfl rfl rfl (fun W' hC' => ?_) (fun K hK => ?_); (focus (obtain g0 := hC'; go_simp; try exact ⟨rfl, rfl⟩)); go_simp; refine hK _ ?_; clear hK K)
                (refine ordQ_held (.slice (some ⟨ab, ao, none⟩) i c) rfl rfl rfl rfl (fun W' hC' => ?_) (fun K hK => ?_); (focus (obtain g0 := hC'; go_simp; try exact ⟨rfl, rfl⟩)); go_simp; refine hK _ ?_; clear hK K)
                (refine ordQ_held (.slice (some ⟨ab, ao, none⟩) la.length c) rfl rfl rfl rfl (fun W' hC' => ?_) (fun K hK => ?_); (focus (obtain g0 := hC'; go_simp; try exact ⟨rfl, rfl⟩)); go_simp; refine hK _ ?_; clear hK K)
                (refine ordQ_held (I i) rfl rfl rfl rfl (fun W' hC' => ?_) (fun K hK => ?_); (focus (obtain g0 := hC'; go_simp; try exact ⟨rfl, rfl⟩)); go_simp; refine hK _ ?_; clear hK K)
                (refine ordQ_held (I ((i : Int) + 1)) rfl rfl rfl rfl (fun W' hC' => ?_) (fun K hK => ?_); (focus (obtain g0 := hC'; go_simp; try exact ⟨rfl, rfl⟩)); go_simp; refine hK _ ?_; clear hK K)
                (refine ordQ_held (.slice (some ⟨ab, ao + (i + 1) * 2, none⟩) (la.length - (i + 1)) (c - (i + 1))) rfl rfl rfl rfl (fun W' hC' => ?_) (fun K hK => ?_); (focus (obtain g0 := hC'; go_simp; try exact ⟨rfl, rfl⟩)); go_simp; refine hK _ ?_; clear hK K)
                refine ordQ_hv rfl rfl rfl (fun K hK => ?_)
                gi_wp2
                refine hK _ _ (fun _ => by (repeat' (first | assumption | exact Below.refl _ _ | refine Below.drew ?_ | refine below_drewN ?_ _ | refine Below.setCell ?_ (by first | omega | (simp; done) | (simp; omega)) _ | refine Below.alloc ?_ (by first | omega | (simp; done) | (simp; omega)) _ | refine Below.trans ?_ (Below.mono (by assumption) (by first | omega | (simp; done) | (simp; omega)))))) ?_
                clear hK K
                have hB4 : Below wc.heap.size wc (wc.alloc (.cells #[] 46)).drew := (below1 wc _).drew
                have hr0 : ((wc.alloc (.cells #[] 46)).drew).ownsRow wc.heap.size 46 2 (.slice (some ⟨wc.heap.size, 0, none⟩) 0 0) 0 [] := (World.ownsRow_made wc #[] 0 (Nat.le_refl _) (Nat.zero_le _) (by simp)).drew
                have hlt1 : (la.take i).length = i := by rw [List.length_take]; omega
                have hlt2 : (la.drop (i + 1)).length = la.length - (i + 1) := List.length_drop
                have hn4 := flat2_src ((twos_take (n := i) HTc.out).below hB4)
                rw [hlt1] at hn4
                refine ordQ_hv rfl rfl rfl (fun K hK => ?_)
                refine opIn_append_any rfl _ _ _ 36 rfl wc.heap.size 46 i0 (sd 0 0) 2 16 Tryd.underlying36 hi0 hi1 hi2 hi3 rfl (by decide) _ 0 [] rfl hr0 (some ⟨ab, ao, none⟩) i c (flat2 (la.take i)) rfl (by rw [flat2_len, hlt1]) hn4 (flat2_one _) (by unfold maxLen; omega) (by omega) hB4.size ?_
                intro v5 w5 ho5 hg5
                rw [Nat.zero_add, List.nil_append] at ho5
                have hB5 : Below wc.heap.size wc w5 := hB4.grown hg5 hB4.size (fun k e => (hr0.lt k e).1)
                refine hK _ _ (fun _ => hB5) ?_
                clear hK K
                have hn5 := flat2_src ((twos_drop (n := i + 1) HTc.out).below hB5)
                rw [hlt2] at hn5
                refine ordQ_hv rfl rfl rfl (fun K hK => ?_)
                refine opIn_append_any rfl _ _ _ 36 rfl wc.heap.size 46 i0 (sd 0 0) 2 16 Tryd.underlying36 hi0 hi1 hi2 hi3 rfl (by decide) _ i (flat2 (la.take i)) rfl ho5 (some ⟨ab, ao + (i + 1) * 2, none⟩) (la.length - (i + 1)) (c - (i + 1)) (flat2 (la.drop (i + 1))) rfl (by rw [flat2_len, hlt2]) hn5 (flat2_one _) (by unfold maxLen; omega) (by omega) hB5.size ?_
                intro v8 w8 ho8 hg8
                have hB8 : Below wc.heap.size wc w8 := hB5.grown hg8 hB5.size (fun k e => (ho5.lt k e).1)
                refine hK _ _ (fun h => by first | exact hB8 | cases h) ?_
                clear hK K
                (refine ordQ_li rfl rfl rfl (fun K hK => ?_); go_simp; refine hK _ ?_; clear hK K)
                refine ordQ_fin ?_
                rw [← flat2_app] at ho8
                have hll4 : (la.take i ++ la.drop (i + 1)).length = i + (la.length - (i + 1)) := by rw [List.length_append, hlt1, hlt2]
                obtain ⟨Az, cz, hv8, hT8, _⟩ := twos_own ho8 hll4
                subst hv8
                have HT8 := Lib.hid hT8
                obtain ⟨less, hless⟩ : ∃ z, la.take i ++ la.drop (i + 1) = z := ⟨_, rfl⟩
                rw [hless] at hll4 HLS
                simp only [hless] at HT8
                have H22l : Hid (∀ W, Below w2.heap.size w2 W → Twos W W.heap.size Az less → Calls Tryd.prog 22 #[visV v (some ⟨rb, ro, none⟩) A2 A3 q1 q2 q3, .slice Az (i + (la.length - (i + 1))) cz, I pn, I mn] W fun e w' => e = .returned (I (widthW v (hasL less) pn mn)) ∧ Below W.heap.size W w') := Lib.hid fun W h ht => by
                  have := H22.out Az cz less W h ht (by omega)
                  rw [hll4] at this
                  exact this
                obtain ⟨wl, hwl⟩ : ∃ z, widthW v (hasL less) pn mn = z := ⟨_, rfl⟩
                rw [hwl] at H22l HLS
                have hwv := HLS.out
                have HB8 := Lib.hid hB8
                have HB9 := Lib.hid (HBw.out.trans (hB8.mono HBw.out.size))
                obtain ⟨⟨x0, x1, x2⟩, _⟩ := HX.out _ HB9.out
                clear hT8 ho8 hg8 hg5 hB5 hB4 hr0 hn4 hn5 hless hwl ho5 hB8 hll4 hlt1 hlt2 HLS
                go_wp2_with (first
                  | (go_at_call 22; refine (H22l.out _ HB9.out HT8.out).mono ?_; rintro e w11 ⟨rfl, hB⟩; have HB10 := Lib.hid (HB8.out.trans (hB.mono HB8.out.size)); clear hB)
                  | fail)
                go_roundw
                case rel => exact ⟨i + 1, by go_num, by omega, Lib.hid (HBc.out.trans (HB10.out.mono HBc.out.size))⟩
                case measure => first | (simp [intOf]; done) | (simp [intOf]; omega)
          · have i1' : ¬ (i : Int) < (la.length : Int) := by omega
            have HB2x := HB
            clear HB
            have HB := HBr
            have rcz := HRC.out _ HB.out
            by_cases hs : (seeV v l pn mn).2.2 = 0
            · obtain ⟨_, _, hg, hse⟩ := see_fine hs
              have hle := see_most HV.out hpn HM.out hg
              simp only [Int.toNat_natCast] at hse
              obtain ⟨N, hN⟩ : ∃ z, min (begM v l pn mn) (v.room pn) = z := ⟨_, rfl⟩
              rw [hN] at hle hse
              have H14a : Hid (∀ W, Below w2.heap.size w2 W → Calls Tryd.prog 14 #[visV v (some ⟨rb, ro, none⟩) A2 A3 q1 q2 q3, .slice AL l.length ql, I pn, I mn] W fun e w' => e = .returned (.tuple #[I N, I l.length, I 0]) ∧ Below W.heap.size W w') := Lib.hid fun W h => by
                have := H14.out AL l ql W h (HX.out W h).2.2.1
                rw [hse] at this
                exact this
              clear hs hse hN hg
              go_wp2_with (first
                | (go_at_call 14; refine (H14a.out _ HB.out).mono ?_; rintro e w12 ⟨rfl, hB⟩; replace HB := Lib.hid (HB.out.trans (hB.mono HB.out.size)); clear x0 x1 x2; obtain ⟨⟨x0, x1, x2⟩, _⟩ := HX.out _ HB.out; clear hB)
                | (go_at_call 13; refine (H13.out _ (HX.out _ HB.out).2.2.2.1).mono ?_; rintro e w9 ⟨rfl, hB⟩; replace HB := Lib.hid (HB.out.trans (hB.mono HB.out.size)); clear x0 x1 x2; obtain ⟨⟨x0, x1, x2⟩, _⟩ := HX.out _ HB.out; clear hB)
                | fail)
              all_goals (refine bodyPost_ret (v := .bool true) ?_ rfl ⟨rfl, (HX.out _ HB.out).2.2.2.2.1⟩; simp [results, Tryd.results5, go_sem]; done)
            · obtain ⟨k, hkl, hk2, hg⟩ := see_part HE.out (by omega) hs
              have hl0 : 0 < l.length := by
                rcases Nat.eq_zero_or_pos l.length with h | h
                · have h0 : l = [] := List.eq_nil_of_length_eq_zero h
                  rw [h0] at hs
                  exact absurd (by rw [see_made (v := v) (l := []) HE.out (by simp) trivial]) hs
                · exact h
              have hkt : (l.take k).length = k := by rw [List.length_take]; omega
              have hse := see_made (v := v) (l := l.take k) HE.out (by rw [hkt]; omega) hg
              have hle := see_most HV.out hpn HM.out hg
              simp only [Int.toNat_natCast] at hse
              obtain ⟨N, hN⟩ : ∃ z, min (begM v (l.take k) pn mn) (v.room pn) = z := ⟨_, rfl⟩
              rw [hN] at hle hse
              rw [hkt] at hse
              obtain ⟨z1, hz1⟩ : ∃ z, (seeV v l pn mn).1 = z := ⟨_, rfl⟩
              obtain ⟨z3, hz3⟩ : ∃ z, (seeV v l pn mn).2.2 = z := ⟨_, rfl⟩
              rw [hz3] at hs
              obtain ⟨lb, lf, hAL, hlb, hlc⟩ := (HX.out _ HB.out).2.2.1 hl0
              subst hAL
              have H14a : Hid (∀ W, Below w2.heap.size w2 W → Calls Tryd.prog 14 #[visV v (some ⟨rb, ro, none⟩) A2 A3 q1 q2 q3, .slice (some ⟨lb, lf, none⟩) l.length ql, I pn, I mn] W fun e w' => e = .returned (.tuple #[I z1, I k, I z3]) ∧ Below W.heap.size W w') := Lib.hid fun W h => by
                have := H14.out (some ⟨lb, lf, none⟩) l ql W h (HX.out W h).2.2.1
                rw [hz1, hk2, hz3] at this
                exact this
              have H14b : Hid (∀ W, Below w2.heap.size w2 W → Calls Tryd.prog 14 #[visV v (some ⟨rb, ro, none⟩) A2 A3 q1 q2 q3, .slice (some ⟨lb, lf, none⟩) k ql, I pn, I mn] W fun e w' => e = .returned (.tuple #[I N, I k, I 0]) ∧ Below W.heap.size W w') := Lib.hid fun W h => by
                have hT : Threes W W.heap.size (some ⟨lb, lf, none⟩) (l.take k) := fun h0 => by
                  obtain ⟨b, off, h1, h2, h3⟩ := (HX.out W h).2.2.1 hl0
                  refine ⟨b, off, h1, h2, fun j hj => ?_⟩
                  rw [List.length_take] at hj
                  rw [List.getElem_take]
                  exact h3 j (by omega)
                have := H14.out (some ⟨lb, lf, none⟩) (l.take k) ql W h hT
                rw [hse, hkt] at this
                exact this
              have hmin : min (k : Int) (l.length : Int) = (k : Int) := by omega
              have kk0 : (0 : Int) ≤ (k : Int) := by omega
              have kkq : (k : Int) ≤ (ql : Int) := by omega
              have kkn : k ≤ ql := by omega
              clear hz1 hz3 hse hN hg hk2 hkt hlc
              go_wp2_with (first
                | (go_at_call 14; refine (H14a.out _ HB.out).mono ?_; rintro e w12 ⟨rfl, hB⟩; replace HB := Lib.hid (HB.out.trans (hB.mono HB.out.size)); clear x0 x1 x2; obtain ⟨⟨x0, x1, x2⟩, _⟩ := HX.out _ HB.out; clear hB)
                | fail)
              have HXq : Hid (∀ W, Below w12.heap.size w12 W → W.cell? ⟨w.heap.size, 0, none⟩ = some (.slice (some ⟨rb, ro, none⟩) v.rm.length q1) ∧ W.cell? ⟨w.heap.size, 1, none⟩ = some (.slice A2 v.tr.length q2) ∧ W.cell? ⟨w.heap.size, 2, none⟩ = some (.slice A3 v.ar.length q3)) := Lib.hid fun W h => (HX.out W (HB.out.trans (h.mono HB.out.size))).1
              refine (wpIn_wide (n := 9)).1 ?_
              refine wpIn_region_plan (Plan.ons [0, 1, 2, 3, 4, 5, 6, 7, 8, 9, 10, 11, 12, 13, 14, 15] .fin) [0, 1, 2, 3, 4, 5, 6, 7, 8] (fun W => Below w12.heap.size w12 W) [] rfl (by kernel_rfl) (by kernel_rfl) (fun _ d _ _ _ h => by cases d <;> exact h) (Below.refl _ _).drew ?_
              (refine ordQ_held (visV v (some ⟨rb, ro, none⟩) A2 A3 q1 q2 q3) rfl rfl rfl rfl (fun W' hC' => ?_) (fun K hK => ?_); (focus (obtain ⟨g0, g1, g2⟩ := HXq.out _ hC'; go_simp; try exact ⟨rfl, rfl⟩)); go_simp; refine hK _ ?_; clear hK K)
              (refine ordQ_held (.slice (some ⟨lb, lf, none⟩) l.length ql) rfl rfl rfl rfl (fun W' hC' => ?_) (fun K hK => ?_); (focus (obtain ⟨g0, g1, g2⟩ := HXq.out _ hC'; go_simp; try exact ⟨rfl, rfl⟩)); go_simp; refine hK _ ?_; clear hK K)
              (refine ordQ_held (I k) rfl rfl rfl rfl (fun W' hC' => ?_) (fun K hK => ?_); (focus (obtain ⟨g0, g1, g2⟩ := HXq.out _ hC'; go_simp; try exact ⟨rfl, rfl⟩)); go_simp; refine hK _ ?_; clear hK K)
              (refine ordQ_held (.slice (some ⟨lb, lf, none⟩) l.length ql) rfl rfl rfl rfl (fun W' hC' => ?_) (fun K hK => ?_); (focus (obtain ⟨g0, g1, g2⟩ := HXq.out _ hC'; go_simp; try exact ⟨rfl, rfl⟩)); go_simp; refine hK _ ?_; clear hK K)
              (refine ordQ_held (I l.length) rfl rfl rfl rfl (fun W' hC' => ?_) (fun K hK => ?_); (focus (obtain ⟨g0, g1, g2⟩ := HXq.out _ hC'; go_simp; try exact ⟨rfl, rfl⟩)); go_simp; refine hK _ ?_; clear hK K)
              (refine ordQ_held (I k) rfl rfl rfl rfl (fun W' hC' => ?_) (fun K hK => ?_); (focus (obtain ⟨g0, g1, g2⟩ := HXq.out _ hC'; go_simp; try exact ⟨rfl, rfl⟩)); go_simp; refine hK _ ?_; clear hK K)
              (refine ordQ_held (.slice (some ⟨lb, lf, none⟩) k ql) rfl rfl rfl rfl (fun W' hC' => ?_) (fun K hK => ?_); (focus (obtain ⟨g0, g1, g2⟩ := HXq.out _ hC'; go_simp; try exact ⟨rfl, rfl⟩)); go_simp; refine hK _ ?_; clear hK K)
              (refine ordQ_held (I pn) rfl rfl rfl rfl (fun W' hC' => ?_) (fun K hK => ?_); (focus (obtain ⟨g0, g1, g2⟩ := HXq.out _ hC'; go_simp; try exact ⟨rfl, rfl⟩)); go_simp; refine hK _ ?_; clear hK K)
              (refine ordQ_held (I mn) rfl rfl rfl rfl (fun W' hC' => ?_) (fun K hK => ?_); (focus (obtain ⟨g0, g1, g2⟩ := HXq.out _ hC'; go_simp; try exact ⟨rfl, rfl⟩)); go_simp; refine hK _ ?_; clear hK K)
              refine ordQ_hv rfl rfl rfl (fun K hK => ?_)
              gi_wp2_with (first | (refine And.intro trivial ?_; gi_at_call 14; refine (callsIn_wide.2 (H14b.out _ HB.out.drew)).mono ?_; rintro e w13 ⟨rfl, hB13⟩) | fail)
              have hB13' : Below w12.heap.size w12 w13 := (Below.refl w12.heap.size w12).drew.trans (hB13.mono (Nat.le_refl _))
              refine hK _ _ (fun _ => hB13') ?_
              clear hK K
              replace HB := Lib.hid (HB.out.trans (hB13'.mono HB.out.size))
              clear hB13 hB13' x0 x1 x2
              obtain ⟨⟨x0, x1, x2⟩, _⟩ := HX.out _ HB.out
              (refine ordQ_li rfl rfl rfl (fun K hK => ?_); go_simp; refine hK _ ?_; clear hK K)
              (refine ordQ_li rfl rfl rfl (fun K hK => ?_); go_simp; refine hK _ ?_; clear hK K)
              (refine ordQ_li rfl rfl rfl (fun K hK => ?_); go_simp; refine hK _ ?_; clear hK K)
              (refine ordQ_li rfl rfl rfl (fun K hK => ?_); go_simp; refine hK _ ?_; clear hK K)
              (refine ordQ_li rfl rfl rfl (fun K hK => ?_); go_simp; refine hK _ ?_; clear hK K)
              (refine ordQ_li rfl rfl rfl (fun K hK => ?_); go_simp; refine hK _ ?_; clear hK K)
              refine ordQ_fin ?_
              go_wp2_with (first
                | (go_at_call 13; refine (H13.out _ (HX.out _ HB.out).2.2.2.1).mono ?_; rintro e w9 ⟨rfl, hB⟩; replace HB := Lib.hid (HB.out.trans (hB.mono HB.out.size)); clear x0 x1 x2; obtain ⟨⟨x0, x1, x2⟩, _⟩ := HX.out _ HB.out; clear hB)
                | fail)
              all_goals (refine bodyPost_ret (v := .bool true) ?_ rfl ⟨rfl, (HX.out _ HB.out).2.2.2.2.1⟩; simp [results, Tryd.results5, go_sem]; done)
  · have HE : Hid (∀ val, MostAns v p m val → val = 0) := Lib.hid fun val h => h.2 he
    obtain ⟨en, hen⟩ : ∃ z, errN v p m = z := ⟨_, rfl⟩
    rw [hen] at H16 he
    clear hen
    go_enter Tryd.func5, Tryd.ntmps5
    go_wp2_with (first
      | (go_at_call 12; refine (H12.out _).mono ?_; rintro e w3 ⟨b, rfl, hb, hB⟩; replace HB := Lib.hid (HB.out.trans (hB.mono HB.out.size)); clear x0 x1 x2; obtain ⟨⟨x0, x1, x2⟩, _⟩ := HX.out _ HB.out; clear hB hb)
      | (go_at_call 13; refine (H13.out _ (HX.out _ HB.out).2.2.2.1).mono ?_; rintro e w9 ⟨rfl, hB⟩; replace HB := Lib.hid (HB.out.trans (hB.mono HB.out.size)); clear x0 x1 x2; obtain ⟨⟨x0, x1, x2⟩, _⟩ := HX.out _ HB.out; clear hB)
      | (go_at_call 16; refine (H16.out _ HB.out).mono ?_; rintro e w4 ⟨val, rfl, hA, hB⟩; have hz := HE.out _ hA; subst hz; replace HB := Lib.hid (HB.out.trans (hB.mono HB.out.size)); clear x0 x1 x2; obtain ⟨⟨x0, x1, x2⟩, _⟩ := HX.out _ HB.out; clear hB hA)
      | fail)
    all_goals (refine bodyPost_ret (v := .bool true) ?_ rfl ⟨rfl, (HX.out _ HB.out).2.2.2.2.1⟩; simp [results, Tryd.results5, go_sem]; done)
end Go.Proofs.YtomfnldlnoiloaaDoor
