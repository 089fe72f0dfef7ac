/- The document's network (54). Printed by mkE4.py. -/
import Derived.Test.YtomfnldlnoiloaaDoorEA
import Derived.Deep.LoopGhost
namespace Go.Proofs.YtomfnldlnoiloaaDoor
set_option linter.unusedVariables false
set_option linter.unusedSimpArgs false
open Go Go.RowKit Go.Maps

set_option maxRecDepth 100000 in
set_option maxHeartbeats 16000000 in
theorem network54 (v : Vis) (hv : VisOk v) (A1 A2 A3 : Option Addr) (q1 q2 q3 p m : Nat) (hp : p < v.n) (hm : m ≤ 60) (w : World) (hI : VisAt w w.heap.size v A1 A2 A3) :
    Calls Tryd.prog 54 #[visV v A1 A2 A3 q1 q2 q3, I p, I m] w fun e w' => ∃ av ob rv, e = .returned (.tuple #[netV (snkN v m + 1) av ob, I (srcN v m : Nat)]) ∧ DN (snkN v m + 1) (osL (netD v p m)) (arsL (netD v p m) (fun _ => 0)) av ob rv w' ∧ (∀ g, DNb (snkN v m + 1) av ob rv g → w.heap.size ≤ g) ∧ Below w.heap.size w w' := by
  obtain ⟨N, hNe⟩ : ∃ N, snkN v m + 1 = N := ⟨_, rfl⟩
  have hsN : srcN v m < N := by rw [← hNe]; unfold snkN; omega
  have hsN2 : srcN v m + 2 = N := by rw [← hNe]; rfl
  have hs488 := srcN_le hv hm
  rw [hNe]
  have HNE := Lib.hid hNe
  have hn := hv.n
  have hn' : v.rm.length ≤ 8 := hn.2
  have hn1 : 1 ≤ v.rm.length := hn.1
  have htl := hv.tl
  have HV := Lib.hid hv
  obtain ⟨rb, ro, hA1, hrb, hrc⟩ := hI.rm (by omega)
  subst hA1
  have hroom : ∀ q (hq : q < v.rm.length), v.rm[q] = v.room q := fun q hq => by simp [Vis.room, List.getD_eq_getElem?_getD, hq]
  have hrcp := hrc p hp
  rw [hroom p hp] at hrcp
  have HRC : Hid (∀ q, q < v.rm.length → w.cell? ⟨rb, ro + q, none⟩ = some (I (v.room q))) := Lib.hid fun q hq => by rw [← hroom q hq]; exact hrc q hq
  have H49 : Hid (∀ W (q t : Nat), q ≤ 1000 → t ≤ 1000 → Calls Tryd.prog 49 #[.agg #[.slice (some ⟨rb, ro, none⟩) v.rm.length q1, .slice A2 v.tr.length q2, .slice A3 v.ar.length q3], I q, I t] W fun e w' => e = .returned (I (nd v.n q t : Nat)) ∧ Below W.heap.size W w') := Lib.hid fun W q t h1 h2 => node49 v hn' (some ⟨rb, ro, none⟩) A2 A3 q1 q2 q3 q t h1 h2 W
  have H38 : Hid (∀ W (q t : Nat), VisAt W W.heap.size v (some ⟨rb, ro, none⟩) A2 A3 → Calls Tryd.prog 38 #[.agg #[.slice (some ⟨rb, ro, none⟩) v.rm.length q1, .slice A2 v.tr.length q2, .slice A3 v.ar.length q3], I q, I t] W fun e w' => e = .returned (I (arrive v q t)) ∧ Below W.heap.size W w') := Lib.hid fun W q t h => arrive38 v hv (some ⟨rb, ro, none⟩) A2 A3 q1 q2 q3 q t W h
  have HLO : Hid (∀ W, Below w.heap.size w W → VisAt W W.heap.size v (some ⟨rb, ro, none⟩) A2 A3) := Lib.hid fun W h => (hI.below h).more h.size
  obtain ⟨w2, hw2⟩ : ∃ y, (w.alloc (.cells #[.slice (some ⟨rb, ro, none⟩) v.rm.length q1, .slice A2 v.tr.length q2, .slice A3 v.ar.length q3] 26)).alloc (.cells #[.slice none 0 0, .slice none 0 0] 82) = y := ⟨_, rfl⟩
  have hz2 : w.heap.size + 1 < w2.heap.size := by rw [← hw2]; simp
  have hB2 : Below w.heap.size w w2 := by rw [← hw2]; (repeat' (first | assumption | exact Below.refl _ _ | refine Below.drew ?_ | refine below_drewN ?_ _ | refine Below.setCell ?_ (by first | omega | (simp; done) | (simp; omega)) _ | refine Below.alloc ?_ (by first | omega | (simp; done) | (simp; omega)) _ | refine Below.trans ?_ (Below.mono (by assumption) (by first | omega | (simp; done) | (simp; omega)))))
  have b1 : Box w2 w.heap.size [.slice (some ⟨rb, ro, none⟩) v.rm.length q1, .slice A2 v.tr.length q2, .slice A3 v.ar.length q3] := by rw [← hw2]; exact (Box.new w [.slice (some ⟨rb, ro, none⟩) v.rm.length q1, .slice A2 v.tr.length q2, .slice A3 v.ar.length q3] 26).alloc _
  have b2 : Box w2 (w.heap.size + 1) [.slice none 0 0, .slice none 0 0] := by
    have h := Box.new (w.alloc (.cells #[.slice (some ⟨rb, ro, none⟩) v.rm.length q1, .slice A2 v.tr.length q2, .slice A3 v.ar.length q3] 26)) [.slice none 0 0, .slice none 0 0] 82
    rw [World.size_alloc] at h
    rw [← hw2]; exact h
  obtain ⟨x0, -⟩ := b1.at_ 0 _ rfl
  obtain ⟨x1, -⟩ := b1.at_ 1 _ rfl
  obtain ⟨x2, -⟩ := b1.at_ 2 _ rfl
  have hmk := fun W => make74z N (by omega) W
  have hw61 : IntKind.i64.wrap ((m : Int) + 1) = ((m + 1 : Nat) : Int) := (IntWalk.i64_in _ (by omega)).trans (by push_cast; rfl)
  have hwN : IntKind.i64.wrap ((srcN v m : Int) + 2) = (N : Int) := (IntWalk.i64_in _ (by omega)).trans (by omega)
  have hsrc : nd v.n 0 (m + 1) = srcN v m := rfl
  have H49s : Hid (∀ W, Calls Tryd.prog 49 #[.agg #[.slice (some ⟨rb, ro, none⟩) v.rm.length q1, .slice A2 v.tr.length q2, .slice A3 v.ar.length q3], I 0, I ((m + 1 : Nat) : Int)] W fun e w' => e = .returned (I (srcN v m : Nat)) ∧ Below W.heap.size W w') := Lib.hid fun W => H49.out W 0 (m + 1) (by omega) (by omega)
  clear hI hrc hroom hNe hv
  go_enter Tryd.func54, Tryd.ntmps54
  go_upto_region 3 with (first
    | (go_at_call 49; refine (H49s.out _).mono ?_; rintro e w3 ⟨rfl, hB3⟩)
    | fail)
  obtain ⟨ob, hob⟩ : ∃ y, w3.heap.size = y := ⟨_, rfl⟩
  have hz3 := hB3.size
  have hz2' : w2.heap.size ≤ ob := by omega
  obtain ⟨wA, hwA⟩ : ∃ y, w3.alloc (.cells (zO N) 22) = y := ⟨_, rfl⟩
  have hzA : wA.heap.size = ob + 1 := by rw [← hwA, ← hob]; simp
  have HN0 : Hid (NW w [.slice (some ⟨rb, ro, none⟩) v.rm.length q1, .slice A2 v.tr.length q2, .slice A3 v.ar.length q3] (ob + 1) ob N [] (.slice none 0 0) (fun _ => .slice none 0 0) (wA.alloc (.cells #[.slice none 0 0, .slice (some ⟨ob, 0, none⟩) N N] 82))) := Lib.hid (by
    have h1 := DN.start N (by omega) w3
    have hBA : Below w3.heap.size w3 wA := by rw [← hwA]; exact below1 _ _
    rw [hob, hwA] at h1
    have h2 := Box.new wA [.slice none 0 0, .slice (some ⟨ob, 0, none⟩) N N] 82
    rw [hzA] at h2
    have hBB := below1 wA (.cells #[.slice none 0 0, .slice (some ⟨ob, 0, none⟩) N N] 82)
    have hB3A := hB3.trans (hBA.mono hz3)
    have hBE := hB3A.trans (hBB.mono hB3A.size)
    refine ⟨h1.below hBB, h2, fun g hg => ?_, hB2.trans (hBE.mono (by omega)), b1.call hBE, b2.call hBE, by omega⟩
    rcases hg with hg | hg | ⟨x, _, hg⟩
    · cases hg
    · subst hg; omega
    · cases hg)
  rw [hob]
  clear hB3 hz3 hzA b1 b2 hB2 hw2 x0 x1 x2 hmk hwN hw61 hsrc
  try rw [hwA]
  obtain ⟨wB, hwB⟩ : ∃ y, wA.alloc (.cells #[.slice none 0 0, .slice (some ⟨ob, 0, none⟩) N N] 82) = y := ⟨_, rfl⟩
  rw [hwB] at HN0
  try rw [hwB]
  clear hwA hwB hob
  obtain ⟨g9, hg9⟩ : ∃ y, ob + 1 = y := ⟨_, rfl⟩
  rw [hg9] at HN0 ⊢
  clear hg9
  go_wp2_with (fail)
  go_loopw [10] (fun i wr => ∃ (t : Nat) (av : Value) (rv : Nat → Value), i = I t ∧ t ≤ m + 1 ∧ Hid (NW w [.slice (some ⟨rb, ro, none⟩) v.rm.length q1, .slice A2 v.tr.length q2, .slice A3 v.ar.length q3] g9 ob N (dT v m t) av rv wr)) (fun i _ => m + 1 - (intOf i).toNat)
  case atStart => exact ⟨0, _, _, rfl, by omega, HN0⟩
  case round =>
    obtain ⟨t, av, rv, rfl, ht, HN⟩ := hrel
    clear HN0
    by_cases htm : t < m + 1
    · have htm2 : (t : Int) ≤ (m : Int) := by omega
      have htm3 : t ≤ m := by omega
      have hwt : IntKind.i64.wrap ((t : Int) + 1) = ((t + 1 : Nat) : Int) := (IntWalk.i64_in _ (by omega)).trans (by push_cast; rfl)
      obtain ⟨x0, -⟩ := HN.out.vb.at_ 0 _ rfl
      obtain ⟨x1, -⟩ := HN.out.vb.at_ 1 _ rfl
      go_upto_if 31 with (fail)
      go_loopw [11] (fun i wr => ∃ (q : Nat) (av : Value) (rv : Nat → Value), i = I q ∧ q ≤ v.rm.length ∧ Hid (NW w [.slice (some ⟨rb, ro, none⟩) v.rm.length q1, .slice A2 v.tr.length q2, .slice A3 v.ar.length q3] g9 ob N (dQ v m t q) av rv wr)) (fun i _ => v.rm.length - (intOf i).toNat)
      case atStart => exact ⟨0, _, _, rfl, by omega, by rw [dQ_zero]; exact HN⟩
      case round =>
        clear HN x0 x1
        obtain ⟨q, av, rv, rfl, hq, HN⟩ := hrel
        obtain ⟨x0, -⟩ := HN.out.vb.at_ 0 _ rfl
        by_cases hq1' : q < v.rm.length
        · have hq1 : q < v.n := hq1'
          have hqi : (q : Int) < (v.rm.length : Int) := by omega
          have hq0 : (0 : Int) ≤ (q : Int) := by omega
          have hwq : IntKind.i64.wrap ((q : Int) + 1) = (q : Int) + 1 := IntWalk.i64_in _ (by omega)
          have hLn := dQ_len HV.out m t q
          have hrc0 := HRC.out q hq1'
          go_upto_region 9 with (fail)
          have HCF : Hid (∀ W, Below wr.heap.size wr W → (W.cell? ⟨g9, 0, none⟩ = some av ∧ W.cell? ⟨g9, 1, none⟩ = some (.slice (some ⟨ob, 0, none⟩) N N)) ∧ (W.cell? ⟨w.heap.size, 0, none⟩ = some (.slice (some ⟨rb, ro, none⟩) v.rm.length q1) ∧ W.cell? ⟨w.heap.size, 1, none⟩ = some (.slice A2 v.tr.length q2) ∧ W.cell? ⟨w.heap.size, 2, none⟩ = some (.slice A3 v.ar.length q3))) := Lib.hid fun W h =>
            have hn := HN.out.below h
            ⟨⟨(hn.nb.at_ 0 _ rfl).1, (hn.nb.at_ 1 _ rfl).1⟩, ⟨(hn.vb.at_ 0 _ rfl).1, (hn.vb.at_ 1 _ rfl).1, (hn.vb.at_ 2 _ rfl).1⟩⟩
          refine (wpIn_wide (n := 9)).1 ?_
          refine wpIn_region_plan (Plan.ons [0, 1, 2, 3, 4, 6, 7, 8, 5, 9, 10, 11] .fin) [0, 1, 2, 3, 4, 6, 7, 8] (fun W => Below wr.heap.size wr W) [10, 11] rfl (by kernel_rfl) (by kernel_rfl) (fun _ d _ _ _ h => by cases d <;> exact h) (Below.refl _ _).drew ?_
          (refine ordQ_held (.agg #[av, .slice (some ⟨ob, 0, none⟩) N N]) rfl rfl rfl rfl (fun W' hC' => ?_) (fun K hK => ?_); (focus (obtain ⟨⟨a0, a1⟩, ⟨g0, g1, g2⟩⟩ := HCF.out _ hC'; go_simp; try exact ⟨rfl, rfl⟩)); go_simp; refine hK _ ?_; clear hK K)
          (refine ordQ_held (I (srcN v m : Nat)) rfl rfl rfl rfl (fun W' hC' => ?_) (fun K hK => ?_); (focus (obtain ⟨⟨a0, a1⟩, ⟨g0, g1, g2⟩⟩ := HCF.out _ hC'; go_simp; try exact ⟨rfl, rfl⟩)); go_simp; refine hK _ ?_; clear hK K)
          (refine ordQ_held (.agg #[.slice (some ⟨rb, ro, none⟩) v.rm.length q1, .slice A2 v.tr.length q2, .slice A3 v.ar.length q3]) rfl rfl rfl rfl (fun W' hC' => ?_) (fun K hK => ?_); (focus (obtain ⟨⟨a0, a1⟩, ⟨g0, g1, g2⟩⟩ := HCF.out _ hC'; go_simp; try exact ⟨rfl, rfl⟩)); go_simp; refine hK _ ?_; clear hK K)
          (refine ordQ_held (I q) rfl rfl rfl rfl (fun W' hC' => ?_) (fun K hK => ?_); (focus (obtain ⟨⟨a0, a1⟩, ⟨g0, g1, g2⟩⟩ := HCF.out _ hC'; go_simp; try exact ⟨rfl, rfl⟩)); go_simp; refine hK _ ?_; clear hK K)
          (refine ordQ_held (I t) rfl rfl rfl rfl (fun W' hC' => ?_) (fun K hK => ?_); (focus (obtain ⟨⟨a0, a1⟩, ⟨g0, g1, g2⟩⟩ := HCF.out _ hC'; go_simp; try exact ⟨rfl, rfl⟩)); go_simp; refine hK _ ?_; clear hK K)
          (refine ordQ_held (.agg #[.slice (some ⟨rb, ro, none⟩) v.rm.length q1, .slice A2 v.tr.length q2, .slice A3 v.ar.length q3]) rfl rfl rfl rfl (fun W' hC' => ?_) (fun K hK => ?_); (focus (obtain ⟨⟨a0, a1⟩, ⟨g0, g1, g2⟩⟩ := HCF.out _ hC'; go_simp; try exact ⟨rfl, rfl⟩)); go_simp; refine hK _ ?_; clear hK K)
          (refine ordQ_held (I q) rfl rfl rfl rfl (fun W' hC' => ?_) (fun K hK => ?_); (focus (obtain ⟨⟨a0, a1⟩, ⟨g0, g1, g2⟩⟩ := HCF.out _ hC'; go_simp; try exact ⟨rfl, rfl⟩)); go_simp; refine hK _ ?_; clear hK K)
          (refine ordQ_held (I t) rfl rfl rfl rfl (fun W' hC' => ?_) (fun K hK => ?_); (focus (obtain ⟨⟨a0, a1⟩, ⟨g0, g1, g2⟩⟩ := HCF.out _ hC'; go_simp; try exact ⟨rfl, rfl⟩)); go_simp; refine hK _ ?_; clear hK K)
          refine ordQ_hv rfl rfl rfl (fun K hK => ?_)
          gi_wp2_with (first | (refine And.intro trivial ?_; gi_at_call 49; refine (callsIn_wide.2 (H49.out wr.drew q t (by omega) (by omega))).mono ?_; rintro e wdb ⟨rfl, hBwdb⟩) | fail)
          have HBwdb : Hid (Below wr.heap.size wr wdb) := Lib.hid ((Below.refl wr.heap.size wr).drew.trans (hBwdb.mono (Nat.le_refl _)))
          clear hBwdb
          refine hK _ _ (fun _ => HBwdb.out) ?_
          clear hK K
          refine ordQ_hv rfl rfl rfl (fun K hK => ?_)
          gi_wp2_with (first | (refine And.intro trivial ?_; gi_at_call 38; refine (callsIn_wide.2 (H38.out _ q t (HLO.out _ (HN.out.lo.trans (HBwdb.out.mono HN.out.lo.size))))).mono ?_; rintro e wdc ⟨rfl, hBwdc⟩) | fail)
          have HBwdc : Hid (Below wr.heap.size wr wdc) := Lib.hid (HBwdb.out.trans (hBwdc.mono HBwdb.out.size))
          clear hBwdc
          refine hK _ _ (fun _ => HBwdc.out) ?_
          clear hK K
          have HNB := Lib.hid (HN.out.below HBwdc.out)
          refine ordQ_hv rfl rfl rfl (fun K hK => ?_)
          gi_wp2_with (first | (refine And.intro trivial ?_; gi_at_call 67; refine (callsIn_wide.2 (add67 N _ _ av ob rv (srcN v m) (nd v.n q t) (arrive v q t) wdc HNB.out.dn hsN (Nat.lt_of_lt_of_le (nd_src (v := v) (m := m) hq1 (by omega)) (by omega)) (by rw [arsL_len]; omega) (fun x _ => Nat.le_trans (osL_len _ x) (by omega)))).mono ?_; rintro e wdd ⟨av', rv', rfl, hD, hF, hb⟩) | fail)
          obtain ⟨⟨A', c', rfl⟩, hnb, hN⟩ := HNB.out.add (srcN v m, nd v.n q t, arrive v q t) hD hF hb
          have HN2 := Lib.hid hN
          obtain ⟨y0, z0⟩ := hnb.at_ 0 _ rfl
          obtain ⟨y1, z1⟩ := hnb.at_ 1 _ rfl
          clear hD hF hb hN hnb HNB HCF
          refine hK _ _ (fun h => by cases h) ?_
          clear hK K
          refine ordQ_hv rfl rfl rfl (fun K hK => ?_)
          gi_wp2
          refine hK _ _ (fun h => by cases h) ?_
          clear hK K y0 z0 y1 z1
          refine ordQ_fin ?_
          obtain ⟨wd, hwd⟩ : ∃ y, (wdd.setCell ⟨g9, 0, none⟩ (.slice A' (2 * (dQ v m t q).length + 2) c')).setCell ⟨g9, 1, none⟩ (.slice (some ⟨ob, 0, none⟩) N N) = y := ⟨_, rfl⟩
          rw [hwd] at HN2
          try rw [hwd]
          clear hwd
          by_cases htl2 : t < m
          · have htl3 : (t : Int) < (m : Int) := by omega
            obtain ⟨L9, hL9⟩ : ∃ y, dQ v m t q ++ [(srcN v m, nd v.n q t, arrive v q t)] = y := ⟨_, rfl⟩
            have hLn2 : L9.length ≤ 32 * t + 2 * q + 1 := by rw [← hL9, List.length_append, List.length_singleton]; omega
            have HL9 := Lib.hid hL9
            rw [hL9] at HN2
            clear hL9
            clear x0
            go_upto_region 11 with (fail)
            have HCF : Hid (∀ W, Below wd.heap.size wd W → (W.cell? ⟨g9, 0, none⟩ = some (.slice A' (2 * (dQ v m t q).length + 2) c') ∧ W.cell? ⟨g9, 1, none⟩ = some (.slice (some ⟨ob, 0, none⟩) N N)) ∧ (W.cell? ⟨w.heap.size, 0, none⟩ = some (.slice (some ⟨rb, ro, none⟩) v.rm.length q1) ∧ W.cell? ⟨w.heap.size, 1, none⟩ = some (.slice A2 v.tr.length q2) ∧ W.cell? ⟨w.heap.size, 2, none⟩ = some (.slice A3 v.ar.length q3)) ∧ W.cell? ⟨rb, ro + q, none⟩ = some (I (v.room q))) := Lib.hid fun W h =>
              have hn := HN2.out.below h
              ⟨⟨(hn.nb.at_ 0 _ rfl).1, (hn.nb.at_ 1 _ rfl).1⟩, ⟨(hn.vb.at_ 0 _ rfl).1, (hn.vb.at_ 1 _ rfl).1, (hn.vb.at_ 2 _ rfl).1⟩, (h.cell (p := ⟨rb, _, none⟩) (Nat.lt_of_lt_of_le hrb HN2.out.lo.size)).trans ((HN2.out.lo.cell (p := ⟨rb, _, none⟩) hrb).trans hrc0)⟩
            refine (wpIn_wide (n := 9)).1 ?_
            refine wpIn_region_plan (Plan.ons [0, 1, 2, 3, 5, 6, 7, 8, 10, 11, 12, 13, 14, 4, 9, 15, 16] .fin) [0, 1, 2, 3, 5, 6, 7, 8, 10, 11, 12, 13, 14] (fun W => Below wd.heap.size wd W) [15, 16] rfl (by kernel_rfl) (by kernel_rfl) (fun _ d _ _ _ h => by cases d <;> exact h) (Below.refl _ _).drew ?_
            (refine ordQ_held (.agg #[.slice A' (2 * (dQ v m t q).length + 2) c', .slice (some ⟨ob, 0, none⟩) N N]) rfl rfl rfl rfl (fun W' hC' => ?_) (fun K hK => ?_); (focus (obtain ⟨⟨a0, a1⟩, ⟨g0, g1, g2⟩, rc⟩ := HCF.out _ hC'; go_simp; try exact ⟨rfl, rfl⟩)); go_simp; refine hK _ ?_; clear hK K)
            (refine ordQ_held (.agg #[.slice (some ⟨rb, ro, none⟩) v.rm.length q1, .slice A2 v.tr.length q2, .slice A3 v.ar.length q3]) rfl rfl rfl rfl (fun W' hC' => ?_) (fun K hK => ?_); (focus (obtain ⟨⟨a0, a1⟩, ⟨g0, g1, g2⟩, rc⟩ := HCF.out _ hC'; go_simp; try exact ⟨rfl, rfl⟩)); go_simp; refine hK _ ?_; clear hK K)
            (refine ordQ_held (I q) rfl rfl rfl rfl (fun W' hC' => ?_) (fun K hK => ?_); (focus (obtain ⟨⟨a0, a1⟩, ⟨g0, g1, g2⟩, rc⟩ := HCF.out _ hC'; go_simp; try exact ⟨rfl, rfl⟩)); go_simp; refine hK _ ?_; clear hK K)
            (refine ordQ_held (I t) rfl rfl rfl rfl (fun W' hC' => ?_) (fun K hK => ?_); (focus (obtain ⟨⟨a0, a1⟩, ⟨g0, g1, g2⟩, rc⟩ := HCF.out _ hC'; go_simp; try exact ⟨rfl, rfl⟩)); go_simp; refine hK _ ?_; clear hK K)
            (refine ordQ_held (.agg #[.slice (some ⟨rb, ro, none⟩) v.rm.length q1, .slice A2 v.tr.length q2, .slice A3 v.ar.length q3]) rfl rfl rfl rfl (fun W' hC' => ?_) (fun K hK => ?_); (focus (obtain ⟨⟨a0, a1⟩, ⟨g0, g1, g2⟩, rc⟩ := HCF.out _ hC'; go_simp; try exact ⟨rfl, rfl⟩)); go_simp; refine hK _ ?_; clear hK K)
            (refine ordQ_held (I q) rfl rfl rfl rfl (fun W' hC' => ?_) (fun K hK => ?_); (focus (obtain ⟨⟨a0, a1⟩, ⟨g0, g1, g2⟩, rc⟩ := HCF.out _ hC'; go_simp; try exact ⟨rfl, rfl⟩)); go_simp; refine hK _ ?_; clear hK K)
            (refine ordQ_held (I t) rfl rfl rfl rfl (fun W' hC' => ?_) (fun K hK => ?_); (focus (obtain ⟨⟨a0, a1⟩, ⟨g0, g1, g2⟩, rc⟩ := HCF.out _ hC'; go_simp; try exact ⟨rfl, rfl⟩)); go_simp; refine hK _ ?_; clear hK K)
            (refine ordQ_held (I ((t + 1 : Nat) : Int)) rfl rfl rfl rfl (fun W' hC' => ?_) (fun K hK => ?_); (focus (obtain ⟨⟨a0, a1⟩, ⟨g0, g1, g2⟩, rc⟩ := HCF.out _ hC'; go_simp; try exact ⟨rfl, rfl⟩)); go_simp; refine hK _ ?_; clear hK K)
            (refine ordQ_held (.pointer (some ⟨w.heap.size, 0, none⟩)) rfl rfl rfl rfl (fun W' hC' => ?_) (fun K hK => ?_); (focus (obtain ⟨⟨a0, a1⟩, ⟨g0, g1, g2⟩, rc⟩ := HCF.out _ hC'; go_simp; try exact ⟨rfl, rfl⟩)); go_simp; refine hK _ ?_; clear hK K)
            (refine ordQ_held (.slice (some ⟨rb, ro, none⟩) v.rm.length q1) rfl rfl rfl rfl (fun W' hC' => ?_) (fun K hK => ?_); (focus (obtain ⟨⟨a0, a1⟩, ⟨g0, g1, g2⟩, rc⟩ := HCF.out _ hC'; go_simp; try exact ⟨rfl, rfl⟩)); go_simp; refine hK _ ?_; clear hK K)
            (refine ordQ_held (I q) rfl rfl rfl rfl (fun W' hC' => ?_) (fun K hK => ?_); (focus (obtain ⟨⟨a0, a1⟩, ⟨g0, g1, g2⟩, rc⟩ := HCF.out _ hC'; go_simp; try exact ⟨rfl, rfl⟩)); go_simp; refine hK _ ?_; clear hK K)
            (refine ordQ_held (.pointer (some ⟨rb, ro + q, none⟩)) rfl rfl rfl rfl (fun W' hC' => ?_) (fun K hK => ?_); (focus (obtain ⟨⟨a0, a1⟩, ⟨g0, g1, g2⟩, rc⟩ := HCF.out _ hC'; go_simp; try exact ⟨rfl, rfl⟩)); go_simp; refine hK _ ?_; clear hK K)
            (refine ordQ_held (I (v.room q)) rfl rfl rfl rfl (fun W' hC' => ?_) (fun K hK => ?_); (focus (obtain ⟨⟨a0, a1⟩, ⟨g0, g1, g2⟩, rc⟩ := HCF.out _ hC'; go_simp; try exact ⟨rfl, rfl⟩)); go_simp; refine hK _ ?_; clear hK K)
            refine ordQ_hv rfl rfl rfl (fun K hK => ?_)
            gi_wp2_with (first | (refine And.intro trivial ?_; gi_at_call 49; refine (callsIn_wide.2 (H49.out wd.drew q t (by omega) (by omega))).mono ?_; rintro e web ⟨rfl, hBweb⟩) | fail)
            have HBweb : Hid (Below wd.heap.size wd web) := Lib.hid ((Below.refl wd.heap.size wd).drew.trans (hBweb.mono (Nat.le_refl _)))
            clear hBweb
            refine hK _ _ (fun _ => HBweb.out) ?_
            clear hK K
            refine ordQ_hv rfl rfl rfl (fun K hK => ?_)
            gi_wp2_with (first | (refine And.intro trivial ?_; gi_at_call 49; refine (callsIn_wide.2 (H49.out _ q (t + 1) (by omega) (by omega))).mono ?_; rintro e wec ⟨rfl, hBwec⟩) | fail)
            have HBwec : Hid (Below wd.heap.size wd wec) := Lib.hid (HBweb.out.trans (hBwec.mono HBweb.out.size))
            clear hBwec
            refine hK _ _ (fun _ => HBwec.out) ?_
            clear hK K
            have HNB := Lib.hid (HN2.out.below HBwec.out)
            refine ordQ_hv rfl rfl rfl (fun K hK => ?_)
            gi_wp2_with (first | (refine And.intro trivial ?_; gi_at_call 67; refine (callsIn_wide.2 (add67 N _ _ _ ob rv' (nd v.n q t) (nd v.n q (t + 1)) (v.room q) wec HNB.out.dn (Nat.lt_of_lt_of_le (nd_src (v := v) (m := m) hq1 (by omega)) (by omega)) (Nat.lt_of_lt_of_le (nd_src (v := v) (m := m) hq1 (by omega)) (by omega)) (by rw [arsL_len]; omega) (fun x _ => Nat.le_trans (osL_len _ x) (by omega)))).mono ?_; rintro e wed ⟨av2, rv2, rfl, hD, hF, hb⟩) | fail)
            obtain ⟨⟨A2', c2', rfl⟩, hnb, hN⟩ := HNB.out.add (nd v.n q t, nd v.n q (t + 1), v.room q) hD hF hb
            have HN3 := Lib.hid hN
            obtain ⟨y0, z0⟩ := hnb.at_ 0 _ rfl
            obtain ⟨y1, z1⟩ := hnb.at_ 1 _ rfl
            clear hD hF hb hN hnb HNB HCF
            refine hK _ _ (fun h => by cases h) ?_
            clear hK K
            refine ordQ_hv rfl rfl rfl (fun K hK => ?_)
            gi_wp2
            refine hK _ _ (fun h => by cases h) ?_
            clear hK K y0 z0 y1 z1
            refine ordQ_fin ?_
            obtain ⟨we, hwe⟩ : ∃ y, (wed.setCell ⟨g9, 0, none⟩ (.slice A2' (2 * L9.length + 2) c2')).setCell ⟨g9, 1, none⟩ (.slice (some ⟨ob, 0, none⟩) N N) = y := ⟨_, rfl⟩
            rw [hwe] at HN3
            try rw [hwe]
            clear hwe
            have HN4 : Hid (NW w [.slice (some ⟨rb, ro, none⟩) v.rm.length q1, .slice A2 v.tr.length q2, .slice A3 v.ar.length q3] g9 ob N (dQ v m t (q + 1)) (.slice A2' (2 * L9.length + 2) c2') rv2 we) := Lib.hid (by
              have h := HN3.out
              rw [dQ_succ, if_pos htl2]
              rw [← HL9.out] at h ⊢
              rw [List.append_assoc] at h
              exact h)
            clear HN HN2 HN3
            go_wp2_with (fail)
            go_roundw
            case rel => exact ⟨q + 1, _, _, by go_num, by omega, HN4⟩
            case measure => first | (simp [intOf]; done) | (simp [intOf]; omega)
          · have htl3 : ¬ (t : Int) < (m : Int) := by omega
            have HN4 : Hid (NW w [.slice (some ⟨rb, ro, none⟩) v.rm.length q1, .slice A2 v.tr.length q2, .slice A3 v.ar.length q3] g9 ob N (dQ v m t (q + 1)) (.slice A' (2 * (dQ v m t q).length + 2) c') rv' wd) := Lib.hid (by
              have h := HN2.out
              rw [dQ_succ, if_neg htl2]
              exact h)
            clear HN HN2
            go_wp2_with (fail)
            go_roundw
            case rel => exact ⟨q + 1, _, _, by go_num, by omega, HN4⟩
            case measure => first | (simp [intOf]; done) | (simp [intOf]; omega)
        · have hqi : ¬ (q : Int) < (v.rm.length : Int) := by omega
          obtain rfl : q = v.rm.length := by omega
          obtain ⟨x1, -⟩ := HN.out.vb.at_ 1 _ rfl
          go_upto_if 68 with (fail)
          go_loopw [12] (fun i wr => ∃ (j : Nat) (av : Value) (rv : Nat → Value), i = I j ∧ j ≤ v.tr.length ∧ Hid (NW w [.slice (some ⟨rb, ro, none⟩) v.rm.length q1, .slice A2 v.tr.length q2, .slice A3 v.ar.length q3] g9 ob N (dR v m t j) av rv wr)) (fun i _ => v.tr.length - (intOf i).toNat)
          case atStart => exact ⟨0, _, _, rfl, by omega, by rw [dR_zero]; exact HN⟩
          case round =>
            clear HN x0 x1
            obtain ⟨j, av, rv, rfl, hj, HN⟩ := hrel
            obtain ⟨x1, -⟩ := HN.out.vb.at_ 1 _ rfl
            by_cases hjt : j < v.tr.length
            · have hji : (j : Int) < (v.tr.length : Int) := by omega
              have hj0 : (0 : Int) ≤ (j : Int) := by omega
              have hwj : IntKind.i64.wrap ((j : Int) + 1) = (j : Int) + 1 := IntWalk.i64_in _ (by omega)
              have hLn := dR_len HV.out m t j
              have hds := dR_succ v m t hjt
              obtain ⟨tb, to_, hA, htb, htc⟩ := (HLO.out _ HN.out.lo).tr (by omega)
              subst hA
              obtain ⟨c0, c1, c2, c3⟩ := htc j hjt
              have hx := HV.out.tr _ (List.getElem_mem hjt)
              obtain ⟨xf, hxf'⟩ : ∃ y : Nat, v.tr[j].1 = y := ⟨v.tr[j].1.toNat, by omega⟩
              obtain ⟨xt, hxt'⟩ : ∃ y : Nat, v.tr[j].2.1 = y := ⟨v.tr[j].2.1.toNat, by omega⟩
              obtain ⟨xm, hxm'⟩ : ∃ y : Nat, v.tr[j].2.2.1 = y := ⟨v.tr[j].2.2.1.toNat, by omega⟩
              obtain ⟨xr, hxr'⟩ : ∃ y, v.tr[j].2.2.2 = y := ⟨_, rfl⟩
              rw [hxf', hxt', hxm', hxr'] at hds hx
              simp only [Int.toNat_natCast] at hds
              rw [hxf'] at c0
              rw [hxt'] at c1
              rw [hxm'] at c2
              rw [hxr'] at c3
              have hxf : xf < v.n := by omega
              have hxt : xt < v.n := by omega
              have hwm : IntKind.i64.wrap ((t : Int) + (xm : Int)) = ((t + xm : Nat) : Int) := (IntWalk.i64_in _ (by omega)).trans (by push_cast; rfl)
              have HDS := Lib.hid hds
              clear htc hxf' hxt' hxm' hxr' hds
              go_upto_region 16 with (fail)
              obtain ⟨wk, hwk⟩ : ∃ y, wr.alloc (.cells #[I xf, I xt, I xm, I xr] 51) = y := ⟨_, rfl⟩
              have BT : Hid (Box wk wr.heap.size [I xf, I xt, I xm, I xr]) := Lib.hid (by rw [← hwk]; exact Box.new wr [I xf, I xt, I xm, I xr] 51)
              have HNK : Hid (NW w [.slice (some ⟨rb, ro, none⟩) v.rm.length q1, .slice (some ⟨tb, to_, none⟩) v.tr.length q2, .slice A3 v.ar.length q3] g9 ob N (dR v m t j) av rv wk) := Lib.hid (by rw [← hwk]; exact HN.out.below (below1 _ _))
              rw [hwk]
              clear hwk c0 c1 c2 c3 x1
              obtain ⟨d2, -⟩ := BT.out.at_ 2 _ rfl
              by_cases hle : t + xm ≤ m
              · have hle2 : ((t + xm : Nat) : Int) ≤ (m : Int) := by omega
                go_upto_region 17 with (fail)
                clear d2
                have HCF : Hid (∀ W, Below wk.heap.size wk W → (W.cell? ⟨g9, 0, none⟩ = some av ∧ W.cell? ⟨g9, 1, none⟩ = some (.slice (some ⟨ob, 0, none⟩) N N)) ∧ (W.cell? ⟨w.heap.size, 0, none⟩ = some (.slice (some ⟨rb, ro, none⟩) v.rm.length q1) ∧ W.cell? ⟨w.heap.size, 1, none⟩ = some (.slice (some ⟨tb, to_, none⟩) v.tr.length q2) ∧ W.cell? ⟨w.heap.size, 2, none⟩ = some (.slice A3 v.ar.length q3)) ∧ (W.cell? ⟨wr.heap.size, 0, none⟩ = some (I xf) ∧ W.cell? ⟨wr.heap.size, 1, none⟩ = some (I xt) ∧ W.cell? ⟨wr.heap.size, 2, none⟩ = some (I xm) ∧ W.cell? ⟨wr.heap.size, 3, none⟩ = some (I xr))) := Lib.hid fun W h =>
                  have hn := HNK.out.below h
                  ⟨⟨(hn.nb.at_ 0 _ rfl).1, (hn.nb.at_ 1 _ rfl).1⟩, ⟨(hn.vb.at_ 0 _ rfl).1, (hn.vb.at_ 1 _ rfl).1, (hn.vb.at_ 2 _ rfl).1⟩, ((BT.out.call h).at_ 0 _ rfl).1, ((BT.out.call h).at_ 1 _ rfl).1, ((BT.out.call h).at_ 2 _ rfl).1, ((BT.out.call h).at_ 3 _ rfl).1⟩
                refine (wpIn_wide (n := 9)).1 ?_
                refine wpIn_region_plan (Plan.ons [0, 1, 2, 3, 4, 6, 7, 8, 9, 10, 11, 12, 14, 15, 5, 13, 16, 17] .fin) [0, 1, 2, 3, 4, 6, 7, 8, 9, 10, 11, 12, 14, 15] (fun W => Below wk.heap.size wk W) [16, 17] rfl (by kernel_rfl) (by kernel_rfl) (fun _ d _ _ _ h => by cases d <;> exact h) (Below.refl _ _).drew ?_
                (refine ordQ_held (.agg #[av, .slice (some ⟨ob, 0, none⟩) N N]) rfl rfl rfl rfl (fun W' hC' => ?_) (fun K hK => ?_); (focus (obtain ⟨⟨a0, a1⟩, ⟨g0, g1, g2⟩, c0, c1, c2, c3⟩ := HCF.out _ hC'; go_simp; try exact ⟨rfl, rfl⟩)); go_simp; refine hK _ ?_; clear hK K)
                (refine ordQ_held (.agg #[.slice (some ⟨rb, ro, none⟩) v.rm.length q1, .slice (some ⟨tb, to_, none⟩) v.tr.length q2, .slice A3 v.ar.length q3]) rfl rfl rfl rfl (fun W' hC' => ?_) (fun K hK => ?_); (focus (obtain ⟨⟨a0, a1⟩, ⟨g0, g1, g2⟩, c0, c1, c2, c3⟩ := HCF.out _ hC'; go_simp; try exact ⟨rfl, rfl⟩)); go_simp; refine hK _ ?_; clear hK K)
                (refine ordQ_held (.pointer (some ⟨wr.heap.size, 0, none⟩)) rfl rfl rfl rfl (fun W' hC' => ?_) (fun K hK => ?_); (focus (obtain ⟨⟨a0, a1⟩, ⟨g0, g1, g2⟩, c0, c1, c2, c3⟩ := HCF.out _ hC'; go_simp; try exact ⟨rfl, rfl⟩)); go_simp; refine hK _ ?_; clear hK K)
                (refine ordQ_held (I xf) rfl rfl rfl rfl (fun W' hC' => ?_) (fun K hK => ?_); (focus (obtain ⟨⟨a0, a1⟩, ⟨g0, g1, g2⟩, c0, c1, c2, c3⟩ := HCF.out _ hC'; go_simp; try exact ⟨rfl, rfl⟩)); go_simp; refine hK _ ?_; clear hK K)
                (refine ordQ_held (I t) rfl rfl rfl rfl (fun W' hC' => ?_) (fun K hK => ?_); (focus (obtain ⟨⟨a0, a1⟩, ⟨g0, g1, g2⟩, c0, c1, c2, c3⟩ := HCF.out _ hC'; go_simp; try exact ⟨rfl, rfl⟩)); go_simp; refine hK _ ?_; clear hK K)
                (refine ordQ_held (.agg #[.slice (some ⟨rb, ro, none⟩) v.rm.length q1, .slice (some ⟨tb, to_, none⟩) v.tr.length q2, .slice A3 v.ar.length q3]) rfl rfl rfl rfl (fun W' hC' => ?_) (fun K hK => ?_); (focus (obtain ⟨⟨a0, a1⟩, ⟨g0, g1, g2⟩, c0, c1, c2, c3⟩ := HCF.out _ hC'; go_simp; try exact ⟨rfl, rfl⟩)); go_simp; refine hK _ ?_; clear hK K)
                (refine ordQ_held (.pointer (some ⟨wr.heap.size, 1, none⟩)) rfl rfl rfl rfl (fun W' hC' => ?_) (fun K hK => ?_); (focus (obtain ⟨⟨a0, a1⟩, ⟨g0, g1, g2⟩, c0, c1, c2, c3⟩ := HCF.out _ hC'; go_simp; try exact ⟨rfl, rfl⟩)); go_simp; refine hK _ ?_; clear hK K)
                (refine ordQ_held (I xt) rfl rfl rfl rfl (fun W' hC' => ?_) (fun K hK => ?_); (focus (obtain ⟨⟨a0, a1⟩, ⟨g0, g1, g2⟩, c0, c1, c2, c3⟩ := HCF.out _ hC'; go_simp; try exact ⟨rfl, rfl⟩)); go_simp; refine hK _ ?_; clear hK K)
                (refine ordQ_held (I t) rfl rfl rfl rfl (fun W' hC' => ?_) (fun K hK => ?_); (focus (obtain ⟨⟨a0, a1⟩, ⟨g0, g1, g2⟩, c0, c1, c2, c3⟩ := HCF.out _ hC'; go_simp; try exact ⟨rfl, rfl⟩)); go_simp; refine hK _ ?_; clear hK K)
                (refine ordQ_held (.pointer (some ⟨wr.heap.size, 2, none⟩)) rfl rfl rfl rfl (fun W' hC' => ?_) (fun K hK => ?_); (focus (obtain ⟨⟨a0, a1⟩, ⟨g0, g1, g2⟩, c0, c1, c2, c3⟩ := HCF.out _ hC'; go_simp; try exact ⟨rfl, rfl⟩)); go_simp; refine hK _ ?_; clear hK K)
                (refine ordQ_held (I xm) rfl rfl rfl rfl (fun W' hC' => ?_) (fun K hK => ?_); (focus (obtain ⟨⟨a0, a1⟩, ⟨g0, g1, g2⟩, c0, c1, c2, c3⟩ := HCF.out _ hC'; go_simp; try exact ⟨rfl, rfl⟩)); go_simp; refine hK _ ?_; clear hK K)
                (refine ordQ_held (I ((t + xm : Nat) : Int)) rfl rfl rfl rfl (fun W' hC' => ?_) (fun K hK => ?_); (focus (obtain ⟨⟨a0, a1⟩, ⟨g0, g1, g2⟩, c0, c1, c2, c3⟩ := HCF.out _ hC'; go_simp; try exact ⟨rfl, rfl⟩)); go_simp; refine hK _ ?_; clear hK K)
                (refine ordQ_held (.pointer (some ⟨wr.heap.size, 3, none⟩)) rfl rfl rfl rfl (fun W' hC' => ?_) (fun K hK => ?_); (focus (obtain ⟨⟨a0, a1⟩, ⟨g0, g1, g2⟩, c0, c1, c2, c3⟩ := HCF.out _ hC'; go_simp; try exact ⟨rfl, rfl⟩)); go_simp; refine hK _ ?_; clear hK K)
                (refine ordQ_held (I xr) rfl rfl rfl rfl (fun W' hC' => ?_) (fun K hK => ?_); (focus (obtain ⟨⟨a0, a1⟩, ⟨g0, g1, g2⟩, c0, c1, c2, c3⟩ := HCF.out _ hC'; go_simp; try exact ⟨rfl, rfl⟩)); go_simp; refine hK _ ?_; clear hK K)
                refine ordQ_hv rfl rfl rfl (fun K hK => ?_)
                gi_wp2_with (first | (refine And.intro trivial ?_; gi_at_call 49; refine (callsIn_wide.2 (H49.out wk.drew xf t (by omega) (by omega))).mono ?_; rintro e wdb ⟨rfl, hBwdb⟩) | fail)
                have HBwdb : Hid (Below wk.heap.size wk wdb) := Lib.hid ((Below.refl wk.heap.size wk).drew.trans (hBwdb.mono (Nat.le_refl _)))
                clear hBwdb
                refine hK _ _ (fun _ => HBwdb.out) ?_
                clear hK K
                refine ordQ_hv rfl rfl rfl (fun K hK => ?_)
                gi_wp2_with (first | (refine And.intro trivial ?_; gi_at_call 49; refine (callsIn_wide.2 (H49.out _ xt (t + xm) (by omega) (by omega))).mono ?_; rintro e wdc ⟨rfl, hBwdc⟩) | fail)
                have HBwdc : Hid (Below wk.heap.size wk wdc) := Lib.hid (HBwdb.out.trans (hBwdc.mono HBwdb.out.size))
                clear hBwdc
                refine hK _ _ (fun _ => HBwdc.out) ?_
                clear hK K
                have HNB := Lib.hid (HNK.out.below HBwdc.out)
                refine ordQ_hv rfl rfl rfl (fun K hK => ?_)
                gi_wp2_with (first | (refine And.intro trivial ?_; gi_at_call 67; refine (callsIn_wide.2 (add67 N _ _ av ob rv (nd v.n xf t) (nd v.n xt (t + xm)) xr wdc HNB.out.dn (Nat.lt_of_lt_of_le (nd_src (v := v) (m := m) hxf (by omega)) (by omega)) (Nat.lt_of_lt_of_le (nd_src (v := v) (m := m) hxt (by omega)) (by omega)) (by rw [arsL_len]; omega) (fun x _ => Nat.le_trans (osL_len _ x) (by omega)))).mono ?_; rintro e wdd ⟨av', rv', rfl, hD, hF, hb⟩) | fail)
                obtain ⟨⟨A', c', rfl⟩, hnb, hN⟩ := HNB.out.add (nd v.n xf t, nd v.n xt (t + xm), xr) hD hF hb
                have HN2 := Lib.hid hN
                obtain ⟨y0, z0⟩ := hnb.at_ 0 _ rfl
                obtain ⟨y1, z1⟩ := hnb.at_ 1 _ rfl
                clear hD hF hb hN hnb HNB HCF
                refine hK _ _ (fun h => by cases h) ?_
                clear hK K
                refine ordQ_hv rfl rfl rfl (fun K hK => ?_)
                gi_wp2
                refine hK _ _ (fun h => by cases h) ?_
                clear hK K y0 z0 y1 z1
                refine ordQ_fin ?_
                obtain ⟨wd, hwd⟩ : ∃ y, (wdd.setCell ⟨g9, 0, none⟩ (.slice A' (2 * (dR v m t j).length + 2) c')).setCell ⟨g9, 1, none⟩ (.slice (some ⟨ob, 0, none⟩) N N) = y := ⟨_, rfl⟩
                rw [hwd] at HN2
                try rw [hwd]
                clear hwd
                have HN4 : Hid (NW w [.slice (some ⟨rb, ro, none⟩) v.rm.length q1, .slice (some ⟨tb, to_, none⟩) v.tr.length q2, .slice A3 v.ar.length q3] g9 ob N (dR v m t (j + 1)) (.slice A' (2 * (dR v m t j).length + 2) c') rv' wd) := Lib.hid (by
                  have h := HN2.out
                  rw [HDS.out, if_pos hle]
                  exact h)
                clear HN HN2 HNK
                go_wp2_with (fail)
                go_roundw
                case rel => exact ⟨j + 1, _, _, by go_num, by omega, HN4⟩
                case measure => first | (simp [intOf]; done) | (simp [intOf]; omega)
              · have hle2 : ¬ ((t + xm : Nat) : Int) ≤ (m : Int) := by omega
                have HN4 : Hid (NW w [.slice (some ⟨rb, ro, none⟩) v.rm.length q1, .slice (some ⟨tb, to_, none⟩) v.tr.length q2, .slice A3 v.ar.length q3] g9 ob N (dR v m t (j + 1)) av rv wk) := Lib.hid (by
                  rw [HDS.out, if_neg hle, List.append_nil]
                  exact HNK.out)
                clear HN HNK
                go_wp2_with (fail)
                go_roundw
                case rel => exact ⟨j + 1, _, _, by go_num, by omega, HN4⟩
                case measure => first | (simp [intOf]; done) | (simp [intOf]; omega)
            · have hji : ¬ (j : Int) < (v.tr.length : Int) := by omega
              obtain rfl : j = v.tr.length := by omega
              rw [← dT_succ] at HN
              go_wp2_with (fail)
              go_roundw
              case rel => exact ⟨t + 1, _, _, rfl, by omega, HN⟩
              case measure => first | (simp [intOf]; done) | (simp [intOf]; omega)
    · have htm2 : ¬ (t : Int) ≤ (m : Int) := by omega
      obtain rfl : t = m + 1 := by omega
      have hLn := dT_len HV.out m (m + 1)
      have p0 : (0 : Int) ≤ (p : Int) := by omega
      have p1 : (p : Int) < (v.rm.length : Int) := by unfold Vis.n at hp; omega
      have hws : IntKind.i64.wrap ((srcN v m : Int) + 1) = ((srcN v m + 1 : Nat) : Int) := (IntWalk.i64_in _ (by omega)).trans (by push_cast; rfl)
      go_upto_region 18 with (fail)
      have HCF : Hid (∀ W, Below wr.heap.size wr W → (W.cell? ⟨g9, 0, none⟩ = some av ∧ W.cell? ⟨g9, 1, none⟩ = some (.slice (some ⟨ob, 0, none⟩) N N)) ∧ (W.cell? ⟨w.heap.size, 0, none⟩ = some (.slice (some ⟨rb, ro, none⟩) v.rm.length q1) ∧ W.cell? ⟨w.heap.size, 1, none⟩ = some (.slice A2 v.tr.length q2) ∧ W.cell? ⟨w.heap.size, 2, none⟩ = some (.slice A3 v.ar.length q3)) ∧ W.cell? ⟨rb, ro + p, none⟩ = some (I (v.room p))) := Lib.hid fun W h =>
        have hn := HN.out.below h
        ⟨⟨(hn.nb.at_ 0 _ rfl).1, (hn.nb.at_ 1 _ rfl).1⟩, ⟨(hn.vb.at_ 0 _ rfl).1, (hn.vb.at_ 1 _ rfl).1, (hn.vb.at_ 2 _ rfl).1⟩, (h.cell (p := ⟨rb, _, none⟩) (Nat.lt_of_lt_of_le hrb HN.out.lo.size)).trans ((HN.out.lo.cell (p := ⟨rb, _, none⟩) hrb).trans hrcp)⟩
      refine (wpIn_wide (n := 9)).1 ?_
      refine wpIn_region_plan (Plan.ons [0, 1, 2, 3, 5, 6, 7, 8, 9, 10, 11, 4, 12, 13] .fin) [0, 1, 2, 3, 5, 6, 7, 8, 9, 10, 11] (fun W => Below wr.heap.size wr W) [12, 13] rfl (by kernel_rfl) (by kernel_rfl) (fun _ d _ _ _ h => by cases d <;> exact h) (Below.refl _ _).drew ?_
      (refine ordQ_held (.agg #[av, .slice (some ⟨ob, 0, none⟩) N N]) rfl rfl rfl rfl (fun W' hC' => ?_) (fun K hK => ?_); (focus (obtain ⟨⟨a0, a1⟩, ⟨g0, g1, g2⟩, rc⟩ := HCF.out _ hC'; go_simp; try exact ⟨rfl, rfl⟩)); go_simp; refine hK _ ?_; clear hK K)
      (refine ordQ_held (.agg #[.slice (some ⟨rb, ro, none⟩) v.rm.length q1, .slice A2 v.tr.length q2, .slice A3 v.ar.length q3]) rfl rfl rfl rfl (fun W' hC' => ?_) (fun K hK => ?_); (focus (obtain ⟨⟨a0, a1⟩, ⟨g0, g1, g2⟩, rc⟩ := HCF.out _ hC'; go_simp; try exact ⟨rfl, rfl⟩)); go_simp; refine hK _ ?_; clear hK K)
      (refine ordQ_held (I p) rfl rfl rfl rfl (fun W' hC' => ?_) (fun K hK => ?_); (focus (obtain ⟨⟨a0, a1⟩, ⟨g0, g1, g2⟩, rc⟩ := HCF.out _ hC'; go_simp; try exact ⟨rfl, rfl⟩)); go_simp; refine hK _ ?_; clear hK K)
      (refine ordQ_held (I m) rfl rfl rfl rfl (fun W' hC' => ?_) (fun K hK => ?_); (focus (obtain ⟨⟨a0, a1⟩, ⟨g0, g1, g2⟩, rc⟩ := HCF.out _ hC'; go_simp; try exact ⟨rfl, rfl⟩)); go_simp; refine hK _ ?_; clear hK K)
      (refine ordQ_held (I (srcN v m : Nat)) rfl rfl rfl rfl (fun W' hC' => ?_) (fun K hK => ?_); (focus (obtain ⟨⟨a0, a1⟩, ⟨g0, g1, g2⟩, rc⟩ := HCF.out _ hC'; go_simp; try exact ⟨rfl, rfl⟩)); go_simp; refine hK _ ?_; clear hK K)
      (refine ordQ_held (I ((srcN v m + 1 : Nat) : Int)) rfl rfl rfl rfl (fun W' hC' => ?_) (fun K hK => ?_); (focus (obtain ⟨⟨a0, a1⟩, ⟨g0, g1, g2⟩, rc⟩ := HCF.out _ hC'; go_simp; try exact ⟨rfl, rfl⟩)); go_simp; refine hK _ ?_; clear hK K)
      (refine ordQ_held (.pointer (some ⟨w.heap.size, 0, none⟩)) rfl rfl rfl rfl (fun W' hC' => ?_) (fun K hK => ?_); (focus (obtain ⟨⟨a0, a1⟩, ⟨g0, g1, g2⟩, rc⟩ := HCF.out _ hC'; go_simp; try exact ⟨rfl, rfl⟩)); go_simp; refine hK _ ?_; clear hK K)
      (refine ordQ_held (.slice (some ⟨rb, ro, none⟩) v.rm.length q1) rfl rfl rfl rfl (fun W' hC' => ?_) (fun K hK => ?_); (focus (obtain ⟨⟨a0, a1⟩, ⟨g0, g1, g2⟩, rc⟩ := HCF.out _ hC'; go_simp; try exact ⟨rfl, rfl⟩)); go_simp; refine hK _ ?_; clear hK K)
      (refine ordQ_held (I p) rfl rfl rfl rfl (fun W' hC' => ?_) (fun K hK => ?_); (focus (obtain ⟨⟨a0, a1⟩, ⟨g0, g1, g2⟩, rc⟩ := HCF.out _ hC'; go_simp; try exact ⟨rfl, rfl⟩)); go_simp; refine hK _ ?_; clear hK K)
      (refine ordQ_held (.pointer (some ⟨rb, ro + p, none⟩)) rfl rfl rfl rfl (fun W' hC' => ?_) (fun K hK => ?_); (focus (obtain ⟨⟨a0, a1⟩, ⟨g0, g1, g2⟩, rc⟩ := HCF.out _ hC'; go_simp; try exact ⟨rfl, rfl⟩)); go_simp; refine hK _ ?_; clear hK K)
      (refine ordQ_held (I (v.room p)) rfl rfl rfl rfl (fun W' hC' => ?_) (fun K hK => ?_); (focus (obtain ⟨⟨a0, a1⟩, ⟨g0, g1, g2⟩, rc⟩ := HCF.out _ hC'; go_simp; try exact ⟨rfl, rfl⟩)); go_simp; refine hK _ ?_; clear hK K)
      refine ordQ_hv rfl rfl rfl (fun K hK => ?_)
      gi_wp2_with (first | (refine And.intro trivial ?_; gi_at_call 49; refine (callsIn_wide.2 (H49.out wr.drew p m (by omega) (by omega))).mono ?_; rintro e wdb ⟨rfl, hBwdb⟩) | fail)
      have HBwdb : Hid (Below wr.heap.size wr wdb) := Lib.hid ((Below.refl wr.heap.size wr).drew.trans (hBwdb.mono (Nat.le_refl _)))
      clear hBwdb
      refine hK _ _ (fun _ => HBwdb.out) ?_
      clear hK K
      have HNB := Lib.hid (HN.out.below HBwdb.out)
      refine ordQ_hv rfl rfl rfl (fun K hK => ?_)
      gi_wp2_with (first | (refine And.intro trivial ?_; gi_at_call 67; refine (callsIn_wide.2 (add67 N _ _ av ob rv (nd v.n p m) (srcN v m + 1) (v.room p) wdb HNB.out.dn (Nat.lt_of_lt_of_le (nd_src (v := v) (m := m) hp (Nat.le_refl _)) (by omega)) (by omega) (by rw [arsL_len]; omega) (fun x _ => Nat.le_trans (osL_len _ x) (by omega)))).mono ?_; rintro e wdc ⟨av', rv', rfl, hD, hF, hb⟩) | fail)
      obtain ⟨⟨A', c', rfl⟩, hnb, hN⟩ := HNB.out.add (nd v.n p m, srcN v m + 1, v.room p) hD hF hb
      have HN2 := Lib.hid hN
      obtain ⟨y0, z0⟩ := hnb.at_ 0 _ rfl
      obtain ⟨y1, z1⟩ := hnb.at_ 1 _ rfl
      clear hD hF hb hN hnb HNB HCF
      refine hK _ _ (fun h => by cases h) ?_
      clear hK K
      refine ordQ_hv rfl rfl rfl (fun K hK => ?_)
      gi_wp2
      refine hK _ _ (fun h => by cases h) ?_
      clear hK K y0 z0 y1 z1
      refine ordQ_fin ?_
      obtain ⟨wd, hwd⟩ : ∃ y, (wdc.setCell ⟨g9, 0, none⟩ (.slice A' (2 * (dT v m (m + 1)).length + 2) c')).setCell ⟨g9, 1, none⟩ (.slice (some ⟨ob, 0, none⟩) N N) = y := ⟨_, rfl⟩
      rw [hwd] at HN2
      try rw [hwd]
      clear hwd
      obtain ⟨y0, -⟩ := HN2.out.nb.at_ 0 _ rfl
      obtain ⟨y1, -⟩ := HN2.out.nb.at_ 1 _ rfl
      obtain ⟨u0, z0⟩ := HN2.out.rb.at_ 0 _ rfl
      obtain ⟨u1, z1⟩ := HN2.out.rb.at_ 1 _ rfl
      go_wp2_with (fail)
      have hbw := (HN2.out.rb.set 0 (.slice A' (2 * (dT v m (m + 1)).length + 2) c')).set 1 (.slice (some ⟨ob, 0, none⟩) N N)
      have hFE : Frm wd.heap.size (fun x => x = w.heap.size + 1) wd ((wd.setCell ⟨w.heap.size + 1, 0, none⟩ (.slice A' (2 * (dT v m (m + 1)).length + 2) c')).setCell ⟨w.heap.size + 1, 1, none⟩ (.slice (some ⟨ob, 0, none⟩) N N)) := ((Frm.refl _ (fun x => x = w.heap.size + 1) _).setCell (.inr rfl) _).setCell (.inr rfl) _
      have HDE := Lib.hid (HN2.out.dn.frm hFE (fun g hg hs => by have := (HN2.out.bk g hg).1; omega))
      have HBE := Lib.hid (HN2.out.lo.trans (hFE.below HN2.out.lo.size (fun k hk hs => by omega)))
      have HBK := Lib.hid HN2.out.bk
      obtain ⟨a0, -⟩ := hbw.at_ 0 _ rfl
      obtain ⟨a1, -⟩ := hbw.at_ 1 _ rfl
      obtain ⟨wz, hwz⟩ : ∃ y, (wd.setCell ⟨w.heap.size + 1, 0, none⟩ (.slice A' (2 * (dT v m (m + 1)).length + 2) c')).setCell ⟨w.heap.size + 1, 1, none⟩ (.slice (some ⟨ob, 0, none⟩) N N) = y := ⟨_, rfl⟩
      rw [hwz] at a0 a1 HDE HBE ⊢
      clear hwz hbw hFE y0 y1 u0 z0 u1 z1 HN2
      refine bodyPost_ret (v := .tuple #[netV N (.slice A' (2 * (dT v m (m + 1)).length + 2) c') ob, I (srcN v m : Nat)]) ?_ rfl ?_
      · simp [results, Tryd.results54, go_sem, a0, a1]
      · exact ⟨_, ob, rv', rfl, HDE.out, fun g hg => by have := (HBK.out g hg).1; omega, HBE.out⟩
end Go.Proofs.YtomfnldlnoiloaaDoor

/- The document's reached (48): a search as numbers of arcs. -/
namespace Go.Proofs.YtomfnldlnoiloaaDoor
set_option linter.unusedVariables false
set_option linter.unusedSimpArgs false
open Go Go.RowKit Go.Maps

def encN (p : Stp) : Nat := 2 * p.1 + (if p.2 then 0 else 1)
theorem encI_nat (p : Stp) : encI p = ((encN p : Nat) : Int) := by
  unfold encI encN
  cases p.2 <;> simp
theorem encN_lt {L : List Arc3} {f : Nat → Int} {p : Stp} (h : p.1 < L.length) : encN p < (arsL L f).length := by
  rw [arsL_len]
  unfold encN
  split <;> omega
theorem flatMap_two_at {α : Type} (g h : Nat → α) : ∀ (n k : Nat), k < n → ((List.range n).flatMap fun i => [g i, h i])[2 * k]? = some (g k) ∧ ((List.range n).flatMap fun i => [g i, h i])[2 * k + 1]? = some (h k)
  | n + 1, k, hk => by
    have hl : ((List.range n).flatMap fun i => [g i, h i]).length = 2 * n := flatMap_two (fun i => (g i, h i)) n
    rw [List.range_succ, List.flatMap_append]
    by_cases e : k < n
    · rw [List.getElem?_append_left (by rw [hl]; omega), List.getElem?_append_left (by rw [hl]; omega)]
      exact flatMap_two_at g h n k e
    · have e2 : k = n := by omega
      subst e2
      rw [List.getElem?_append_right (by rw [hl]; omega), List.getElem?_append_right (by rw [hl]; omega), hl]
      simp
/-- An arc by its number. -/
theorem arsL_at {L : List Arc3} (f : Nat → Int) {p : Stp} (h : p.1 < L.length) : (arsL L f)[encN p]? = some ((stF L p : Int), (stT L p : Int), roomL L f p) := by
  obtain ⟨h1, h2⟩ := flatMap_two_at (fun i => ((frL L i : Int), (toL L i : Int), capL L i - f i)) (fun i => ((toL L i : Int), (frL L i : Int), f i)) L.length p.1 h
  obtain ⟨k, b⟩ := p
  unfold arsL encN
  cases b
  · exact h2
  · exact h1
/-- By which arc each node was found: the source -2, none -1. -/
def byD (L : List Arc3) (s : Nat) (ys : List Stp) (x : Nat) : Int := if x = s then -2 else match ys.find? (fun p => stT L p == x) with
  | some p => encI p
  | none => -1
theorem byD_nil (L : List Arc3) (s x : Nat) : byD L s [] x = if x = s then -2 else -1 := rfl
theorem find_none {L : List Arc3} {s : Nat} {ys : List Stp} {x : Nat} (h : x ∉ ordL L s ys) : ys.find? (fun p => stT L p == x) = none := by
  rw [List.find?_eq_none]
  intro p hp e
  refine h ?_
  unfold ordL ordS
  rw [List.mem_cons]
  right
  exact List.mem_map.2 ⟨p, hp, by simpa using e⟩
theorem byD_no {L : List Arc3} {s : Nat} {ys : List Stp} {x : Nat} (h : x ∉ ordL L s ys) : byD L s ys x = -1 := by
  unfold byD
  rw [if_neg (fun e => h (by rw [e]; simp [ordL, ordS])), find_none h]
theorem byD_yes {L : List Arc3} {s : Nat} {ys : List Stp} {x : Nat} (h : x ∈ ordL L s ys) : byD L s ys x ≠ -1 := by
  unfold byD
  by_cases e : x = s
  · rw [if_pos e]; decide
  · rw [if_neg e]
    unfold ordL ordS at h
    rcases List.mem_cons.1 h with h | h
    · exact absurd h e
    · obtain ⟨p, hp, hpx⟩ := List.mem_map.1 h
      cases hf : ys.find? (fun p => stT L p == x) with
      | some q => dsimp only; rw [encI_nat]; omega
      | none =>
        rw [List.find?_eq_none] at hf
        exact absurd (by simpa using hpx) (hf p hp)
theorem byD_push {L : List Arc3} {s : Nat} {ys : List Stp} {p : Stp} (h : stT L p ∉ ordL L s ys) (q : Nat) : (if q = stT L p then encI p else byD L s ys q) = byD L s (ys ++ [p]) q := by
  have hs : stT L p ≠ s := fun e => h (by rw [e]; simp [ordL, ordS])
  by_cases e : q = stT L p
  · subst e
    rw [if_pos rfl]
    unfold byD
    rw [if_neg hs, List.find?_append, find_none h]
    simp
  · rw [if_neg e]
    unfold byD
    by_cases e2 : q = s
    · rw [if_pos e2, if_pos e2]
    · rw [if_neg e2, if_neg e2, List.find?_append]
      have : [p].find? (fun p => stT L p == q) = none := by
        rw [List.find?_cons_of_neg (by simpa using fun h => e h.symm)]
        rfl
      rw [this, Option.or_none]
theorem byD_range {L : List Arc3} {s : Nat} {ys : List Stp} (hy : ∀ p, p ∈ ys → p.1 < L.length) (x : Nat) : -2 ≤ byD L s ys x ∧ byD L s ys x < 2 * L.length + 1 := by
  unfold byD
  split
  · omega
  · split
    · rename_i p hf
      have := hy p (List.mem_of_find?_eq_some hf)
      rw [encI_nat]
      unfold encN
      split <;> omega
    · omega
section
variable {N : Nat} {os : Nat → List Int} {ars : List Arc} {av : Value} {ob : Nat} {rv : Nat → Value} {W W' : World}
/-- Node x's numbers, one by one. -/
theorem DN.num (h : DN N os ars av ob rv W) {x : Nat} (hx : x < N) : ∃ R c, rv x = .slice R (os x).length c ∧ ∀ j (hj : j < (os x).length), ∃ rg, R = some ⟨rg, 0, none⟩ ∧ rg < W.heap.size ∧ W.cell? ⟨rg, j, none⟩ = some (I (os x)[j]) := by
  have hr := h.rows x hx
  rcases own_formS hr with ⟨h1, h2⟩ | ⟨g, cap, h1, _, h3⟩
  · exact ⟨none, 0, by rw [h1, h2], fun j hj => by omega⟩
  · refine ⟨_, cap, h1, fun j hj => ⟨g, rfl, h3, ?_⟩⟩
    rw [h1] at hr
    rw [hr.cellAt j (by omega), List.getElem?_map, List.getElem?_eq_getElem hj]
    rfl
/-- The arcs, one by one. -/
theorem DN.arc (h : DN N os ars av ob rv W) : ∃ A c, av = .slice A ars.length c ∧ ∀ j (hj : j < ars.length), ∃ ga, A = some ⟨ga, 0, none⟩ ∧ ga < W.heap.size ∧ W.cell? ⟨ga, j * 3, none⟩ = some (I ars[j].1) ∧ W.cell? ⟨ga, j * 3 + 1, none⟩ = some (I ars[j].2.1) ∧ W.cell? ⟨ga, j * 3 + 2, none⟩ = some (I ars[j].2.2) ∧ W.frozen? ⟨ga, j * 3 + 2, none⟩ = false := by
  have hr := h.arcs
  rcases own_formS hr with ⟨h1, h2⟩ | ⟨g, cap, h1, _, h3⟩
  · exact ⟨none, 0, by rw [h1, h2], fun j hj => by omega⟩
  · refine ⟨_, cap, h1, fun j hj => ⟨g, rfl, h3, ?_⟩⟩
    rw [h1] at hr
    obtain ⟨f1, f2, f3⟩ := flat3_get ars j hj
    refine ⟨?_, ?_, ?_, hr.frozenAt _⟩
    · rw [hr.cellAt (j * 3) (by omega)]; exact f1
    · rw [hr.cellAt (j * 3 + 1) (by omega)]; exact f2
    · rw [hr.cellAt (j * 3 + 2) (by omega)]; exact f3
end
section
variable {P : Program} (w : World)
theorem wpList_append_queue {ops : Array Oper} {rest : List Oper} {o : Oper} {a : Act} {Q : Exit → Act → World → Prop} (hgd : o.guard = none) (s x : Operand) (t : TypeId) (ho : o.op = Op.call { callee := Callee.builtin Builtin.append, args := #[s, x], argTypes := #[t, t] })
    (base : Nat) (e : TypeId) (i : TypeInfo) (z : Value) (size bytes : Nat) (h1 : P.underlying t = some (.slice e)) (h2 : P.info? e = some i) (h3 : i.zero = some z) (h4 : i.size = size) (h5 : i.bytes = bytes) (h6 : z.cells.size = size) (h7 : 0 < size)
    (v : Value) (k : Nat) (xs : List Value) (hs : a.eval s = v) (hown : QueueAt w base e size v k xs) (ad : Addr) (m c : Nat) (news : List Value) (hx : a.eval x = .slice (some ad) m c) (hn : news.length = m * size)
    (hc : ∀ j u, news[j]? = some u → w.cell? (ad.add j) = some u) (h1c : ∀ u ∈ news, u.oneCell' = true) (hm : 0 < m) (b1 : k + m ≤ maxLen) (b2 : (k + m) * bytes ≤ 140737488355328) (b3 : base ≤ w.heap.size)
    (hK : ∀ v' w' row, QueueAt w' base e size v' (k + m) (xs ++ news) → w.grownBy w' row → (∀ r, row = some r → base ≤ r ∧ ∃ cur, w.heap[r]? = some (.cells cur e (0, 0))) → wpList P ops Q rest (a.put o.dst v') w') :
    wpList P ops Q (o :: rest) a w :=
  wpList_plain hgd fun _ hK' => by
    obtain ⟨v', w', row, hrun, r1, r2, r3⟩ := hown.append (P := P) t o.type i z bytes h1 h2 h3 h4 h5 h6 h7 ad m c news hn hc h1c hm b1 b2 b3
    unfold Oper.wp execOp
    simp only [ho, resolve, invoke, builtin, Sem.run_bind, Sem.run_pure, Result.andThen_ok, List.map_toArray, List.map_cons, List.map_nil, hs, hx, hrun]
    exact hK' _ _ (hK v' w' row r1 r2 r3)
end
theorem slice22 (R : Option Addr) (n c : Nat) (h : 1 ≤ n) (w : World) : (Instr.sliceAt 22 (.slice R n c) (some (.int .i64 1)) none none).run Tryd.prog w = .ok (sliced R 1 n c 1) w := by
  have u33 : Tryd.prog.underlying 22 = some (.slice (Tryd.prog.elem 22)) := by kernel_rfl
  have s3 : ∀ w, (sizeOf (Tryd.prog.elem 22)).run Tryd.prog w = .ok 1 w := fun w => by kernel_rfl
  rw [run_sliceAt_slice (h := u33), run_slice_l (ht := u33) (h0 := by omega) (h1 := by omega), s3]
  rfl
abbrev nodesV (l : List Nat) : List Value := l.map fun x => I (x : Nat)
end Go.Proofs.YtomfnldlnoiloaaDoor

/- The document's reached (48): the walk. -/
namespace Go.Proofs.YtomfnldlnoiloaaDoor
set_option linter.unusedVariables false
set_option linter.unusedSimpArgs false
open Go Go.RowKit Go.Maps

set_option maxRecDepth 100000 in
set_option maxHeartbeats 16000000 in
theorem reached48 (L : List Arc3) (f : Nat → Int) (N s : Nat) (av : Value) (ob : Nat) (rv : Nat → Value) (w : World) (hN : NetOk L N s) (hNs : N = s + 2) (hNb : N ≤ 1000) (hLl : L.length ≤ 4000) (hf : ∀ p : Stp, p.1 < L.length → 0 ≤ roomL L f p ∧ roomL L f p ≤ 10000000) (h : DN N (osL L) (arsL L f) av ob rv w) :
    Calls Tryd.prog 48 #[netV N av ob, I s] w fun e w' => ∃ B, e = .returned (.slice (some ⟨B, 0, none⟩) N N) ∧ Box w' B ((thL N (byD L s (bfsL L f s N))).map I) ∧ w.heap.size ≤ B ∧ Below w.heap.size w w' := by
  obtain ⟨i0, hi0, hi1, hi2, hi3⟩ := info_parts info3
  obtain ⟨A, ca, rfl, harc⟩ := h.arc
  have HNK := Lib.hid hN
  have HF := Lib.hid hf
  have HROW : Hid (∀ W, Below w.heap.size w W → ∀ x, x < N → W.cell? ⟨ob, x, none⟩ = some (rv x)) := Lib.hid fun W hB x hx => (hB.cell (p := ⟨ob, x, none⟩) (h.out.lt _ rfl).2).trans (h.row hx).1
  have HNUM : Hid (∀ x, x < N → ∃ R c, rv x = .slice R (outsL L x).length c ∧ ∀ j (hj : j < (outsL L x).length), ∃ rg, R = some ⟨rg, 0, none⟩ ∧ ∀ W, Below w.heap.size w W → W.cell? ⟨rg, j, none⟩ = some (I (encN (outsL L x)[j] : Nat))) := Lib.hid fun x hx => by
    obtain ⟨R, c, h1, h2⟩ := h.num hx
    have hl : (osL L x).length = (outsL L x).length := by simp [osL]
    refine ⟨R, c, by rw [h1, hl], fun j hj => ?_⟩
    obtain ⟨rg, h3, h4, h5⟩ := h2 j (by rw [hl]; exact hj)
    refine ⟨rg, h3, fun W hB => (hB.cell (p := ⟨rg, j, none⟩) h4).trans (h5.trans ?_)⟩
    unfold osL
    rw [List.getElem_map, encI_nat]
  have HARC : Hid (∀ p : Stp, p.1 < L.length → encN p < (arsL L f).length ∧ ∃ ga, A = some ⟨ga, 0, none⟩ ∧ ∀ W, Below w.heap.size w W → W.cell? ⟨ga, encN p * 3, none⟩ = some (I (stF L p : Nat)) ∧ W.cell? ⟨ga, encN p * 3 + 1, none⟩ = some (I (stT L p : Nat)) ∧ W.cell? ⟨ga, encN p * 3 + 2, none⟩ = some (I (roomL L f p))) := Lib.hid fun p hp => by
    have hlt := encN_lt (f := f) hp
    obtain ⟨ga, h1, h2, h3, h4, h5, _⟩ := harc _ hlt
    have hat := arsL_at f hp
    rw [List.getElem?_eq_getElem hlt] at hat
    injection hat with hat
    rw [hat] at h3 h4 h5
    exact ⟨hlt, ga, h1, fun W hB => ⟨(hB.cell (p := ⟨ga, _, none⟩) h2).trans h3, (hB.cell (p := ⟨ga, _, none⟩) h2).trans h4, (hB.cell (p := ⟨ga, _, none⟩) h2).trans h5⟩⟩
  have hM4 : (arsL L f).length ≤ 8000 := by rw [arsL_len]; omega
  obtain ⟨M, hM⟩ : ∃ M, (arsL L f).length = M := ⟨_, rfl⟩
  rw [hM] at HARC hM4 ⊢
  clear h harc hM hf hN
  obtain ⟨w2, hw2⟩ : ∃ y, w.alloc (.cells #[.slice A M ca, .slice (some ⟨ob, 0, none⟩) N N] 82) = y := ⟨_, rfl⟩
  have hz2 : w.heap.size < w2.heap.size := by rw [← hw2]; simp
  have hB2 : Below w.heap.size w w2 := by rw [← hw2]; exact below1 _ _
  have b2 : Box w2 w.heap.size [.slice A M ca, .slice (some ⟨ob, 0, none⟩) N N] := by rw [← hw2]; exact Box.new w [.slice A M ca, .slice (some ⟨ob, 0, none⟩) N N] 82
  have hmk := fun W => make22z N (by omega) W
  have hNi : (s : Int) + 2 = (N : Int) := by omega
  have s0 : (0 : Int) ≤ (s : Int) := by omega
  have s1 : (s : Int) < (N : Int) := by omega
  have hsN : s < N := by omega
  have HNS := Lib.hid hNs
  clear hNs
  go_enter Tryd.func48, Tryd.ntmps48
  go_upto_region 2 with (fail)
  obtain ⟨B, hB⟩ : ∃ y, w2.heap.size = y := ⟨_, rfl⟩
  have hBw : w.heap.size < B := by omega
  obtain ⟨w3, hw3⟩ : ∃ y, w2.alloc (.cells (zI N) 3) = y := ⟨_, rfl⟩
  have HB3 : Hid (Below w.heap.size w w3 ∧ B < w3.heap.size) := Lib.hid (by rw [← hw3, ← hB]; exact ⟨hB2.alloc (by omega) _, by simp⟩)
  have HX3 : Hid (Box w3 w.heap.size [.slice A M ca, .slice (some ⟨ob, 0, none⟩) N N]) := Lib.hid (by rw [← hw3]; exact b2.alloc _)
  have HS3 : Hid (Box w3 B ((thL N (fun q => if q < 0 then -1 else 0)).map I)) := Lib.hid (by
    have h := Box.new w2 (List.replicate N (I 0)) 3
    have e : (thL N (fun q => if q < 0 then (-1 : Int) else 0)).map I = List.replicate N (I 0) := by
      rw [List.map_map]
      exact (List.map_congr_left (g := fun _ => I 0) fun q _ => by simp).trans (List.map_const'.trans (by rw [List.length_range]))
    rw [e, ← hw3, ← hB]
    exact h)
  rw [hB]
  try rw [hw3]
  try rw [hw2]
  try rw [hw3]
  clear hw3 hB hw2 hB2 b2 hmk hz2 hNi
  go_wp2_with (fail)
  go_loopw [6] (fun i wr => ∃ k : Nat, i = I k ∧ k ≤ N ∧ Hid (Below w.heap.size w wr ∧ B < wr.heap.size) ∧ Hid (Box wr w.heap.size [.slice A M ca, .slice (some ⟨ob, 0, none⟩) N N]) ∧ Hid (Box wr B ((thL N (fun q => if q < k then -1 else 0)).map I))) (fun i _ => N - (intOf i).toNat)
  case atStart => exact ⟨0, rfl, by omega, HB3, HX3, HS3⟩
  case round =>
    obtain ⟨k, rfl, hk, HB, HX, HS⟩ := hrel
    clear HB3 HX3 HS3
    by_cases hlt : k < N
    · have k0 : (0 : Int) ≤ (k : Int) := by omega
      have k1 : (k : Int) < (N : Int) := by omega
      have hwk : IntKind.i64.wrap ((k : Int) + 1) = (k : Int) + 1 := IntWalk.i64_in _ (by omega)
      obtain ⟨r5, f5⟩ := HS.out.at_ k _ (thL_at _ hlt)
      go_wp2_with (fail)
      go_roundw
      case rel =>
        refine ⟨k + 1, by go_num, by omega, Lib.hid ⟨HB.out.1.setCell (p := ⟨B, k, none⟩) (by dsimp only; omega) _, by have := HB.out.2; simpa using this⟩, Lib.hid (HX.out.far (p := ⟨B, k, none⟩) (by dsimp only; omega) _), Lib.hid ?_⟩
        have h := HS.out.set k (I (-1))
        rw [thL_set, thL_congr (g := fun q => if q < k + 1 then -1 else 0) (fun q hq => ?_)] at h
        · exact h
        · by_cases e : q = k
          · rw [if_pos e, if_pos (by omega)]
          · rw [if_neg e]
            by_cases e2 : q < k
            · rw [if_pos e2, if_pos (by omega)]
            · rw [if_neg e2, if_neg (by omega)]
      case measure => first | (simp [intOf]; done) | (simp [intOf]; omega)
    · have k1 : ¬ (k : Int) < (N : Int) := by omega
      obtain rfl : k = N := by omega
      obtain ⟨r5, f5⟩ := HS.out.at_ s _ (thL_at _ hsN)
      go_upto_region 7 with (fail)
      obtain ⟨w4, hw4⟩ : ∃ y, wr.setCell ⟨B, s, none⟩ (I (-2)) = y := ⟨_, rfl⟩
      have HB4 : Hid (Below w.heap.size w w4 ∧ B < w4.heap.size) := Lib.hid (by rw [← hw4]; exact ⟨HB.out.1.setCell (p := ⟨B, s, none⟩) (by dsimp only; omega) _, by have := HB.out.2; simpa using this⟩)
      have HX4 : Hid (Box w4 w.heap.size [.slice A M ca, .slice (some ⟨ob, 0, none⟩) k k]) := Lib.hid (by rw [← hw4]; exact HX.out.far (p := ⟨B, s, none⟩) (by dsimp only; omega) _)
      have HS4 : Hid (Box w4 B ((thL k (byD L s [])).map I)) := Lib.hid (by
        have h := HS.out.set s (I (-2))
        rw [thL_set, hw4, thL_congr (g := byD L s []) (fun q hq => ?_)] at h
        · exact h
        · rw [byD_nil]
          by_cases e : q = s
          · rw [if_pos e, if_pos e]
          · rw [if_neg e, if_neg e, if_pos hq])
      rw [hw4]
      clear hw4 HB HX HS r5 f5
      go_wp2_with (fail)
      have hzz : w4.heap.size < (w4.alloc (.cells #[I s] 3)).heap.size := by simp
      have HQ0 : Hid (QueueAt (w4.alloc (.cells #[I s] 3)) (B + 1) 3 1 (.slice (some ⟨w4.heap.size, 0, none⟩) 1 1) 1 [I s]) := Lib.hid ⟨rfl, ⟨w4.heap.size, 0, none⟩, 1, rfl, by simp, by decide, fun _ => ⟨w4.heap.size, 0, #[I s], rfl, HB4.out.2, (MapKept.heap_alloc w4 _).1, by simp⟩, cells_new w4 [I s] 3⟩
      have HB5 : Hid (Below w.heap.size w (w4.alloc (.cells #[I s] 3)) ∧ B < (w4.alloc (.cells #[I s] 3)).heap.size) := Lib.hid ⟨HB4.out.1.alloc (by have := HB4.out.1.size; omega) _, by have := HB4.out.2; omega⟩
      have HX5 := Lib.hid (HX4.out.alloc (.cells #[I s] 3))
      have HS5 := Lib.hid (HS4.out.alloc (.cells #[I s] 3))
      obtain ⟨w5, hw5⟩ : ∃ y, w4.alloc (.cells #[I s] 3) = y := ⟨_, rfl⟩
      rw [hw5] at HQ0 HB5 HX5 HS5 ⊢
      clear hw5 HB4 HX4 HS4 hzz
      obtain ⟨NN, hNN⟩ : ∃ y, y = k := ⟨_, rfl⟩
      subst hNN
      go_loopg [7] (NN + 1) (fun g q7 wr => ∃ (kk : Nat) (ys : List Stp), Hid (g + kk = NN + 1 ∧ kk ≤ ys.length + 1 ∧ ys = bfsL L f s kk) ∧ Hid (QueueAt wr (B + 1) 3 1 q7 (ys.length + 1 - kk) (nodesV ((ordL L s ys).drop kk))) ∧ Hid (Box wr B ((thL NN (byD L s ys)).map I)) ∧ Hid (Below w.heap.size w wr ∧ B < wr.heap.size) ∧ Hid (Box wr w.heap.size [.slice A M ca, .slice (some ⟨ob, 0, none⟩) NN NN]))
      case atStart => exact ⟨0, [], Lib.hid ⟨rfl, by simp, rfl⟩, HQ0, HS5, HB5, HX5⟩
      case round =>
        obtain ⟨kk, ys, HA, HQ, HS, HB, HX⟩ := hrel
        clear HQ0 HS5 HB5 HX5
        have hlN : ys.length + 1 ≤ NN := by rw [HA.out.2.2]; exact bfs_len outs_from HNK.out.src (fun _ _ h => HNK.out.stT h) kk
        by_cases hlt : kk < ys.length + 1
        · obtain ⟨nn, hnn⟩ : ∃ nn, ys.length + 1 - kk = nn + 1 := ⟨ys.length - kk, by omega⟩
          have hkl : kk < (ordL L s ys).length := by unfold ordL; rw [ordS_len]; exact hlt
          obtain ⟨x, hx⟩ : ∃ x, (ordL L s ys)[kk] = x := ⟨_, rfl⟩
          have HXX : Hid ((ordL L s ys)[kk]? = some x) := Lib.hid (by rw [List.getElem?_eq_getElem hkl, hx])
          have hxN : x < NN := by
            have hm : x ∈ ordL L s ys := by rw [← hx]; exact List.getElem_mem hkl
            unfold ordL ordS at hm
            rcases List.mem_cons.1 hm with rfl | hm
            · exact HNK.out.src
            · obtain ⟨p, hp, rfl⟩ := List.mem_map.1 hm
              rw [HA.out.2.2] at hp
              obtain ⟨y, hy⟩ := bfs_mem hp
              exact HNK.out.stT hy
          have hq := HQ.out
          have hdr : nodesV ((ordL L s ys).drop kk) = I (x : Nat) :: nodesV ((ordL L s ys).drop (kk + 1)) := by rw [List.drop_eq_getElem_cons hkl, hx]; rfl
          rw [hnn, hdr] at hq
          obtain ⟨qg, qo, qc, rfl, hqc, hqt⟩ := queue_pop hq
          have hd1 : (I (x : Nat) :: nodesV ((ordL L s ys).drop (kk + 1))).drop 1 = nodesV ((ordL L s ys).drop (kk + 1)) := rfl
          rw [hd1] at hqt
          have q0 := hqc 0 _ rfl
          rw [Nat.add_zero] at q0
          have hsl := fun W => slice22 (some ⟨qg, qo, none⟩) (nn + 1) qc (by omega) W
          obtain ⟨Q', hQ'⟩ : ∃ Q', sliced (some ⟨qg, qo, none⟩) 1 (nn + 1) qc 1 = Q' := ⟨_, rfl⟩
          rw [hQ'] at hsl hqt
          have n0 : (0 : Int) < ((nn + 1 : Nat) : Int) := by omega
          obtain ⟨R, rc, hrv, hrn⟩ := HNUM.out x hxN
          obtain ⟨l, hl⟩ : ∃ l, outsL L x = l := ⟨_, rfl⟩
          have HRV := Lib.hid hrv
          have HRN := Lib.hid hrn
          rw [hl] at HRV HRN
          have HOL := Lib.hid hl
          have hll : l.length ≤ 8000 := by rw [← hl]; have := outsL_lt (L := L) (x := x); omega
          have x0i : (0 : Int) ≤ (x : Int) := by omega
          have x1i : (x : Int) < (NN : Int) := by omega
          have HQ1 : Hid (QueueAt wr (B + 1) 3 1 Q' ((scans (stT L) (roomL L f) s ys (l.take 0)).length + 1 - (kk + 1)) (nodesV ((ordL L s (scans (stT L) (roomL L f) s ys (l.take 0))).drop (kk + 1)))) := Lib.hid (by
            rw [List.take_zero, scans_nil, show ys.length + 1 - (kk + 1) = nn by omega]
            exact hqt)
          have HS1 : Hid (Box wr B ((thL NN (byD L s (scans (stT L) (roomL L f) s ys (l.take 0)))).map I)) := Lib.hid (by rw [List.take_zero, scans_nil]; exact HS.out)
          clear hq hqc hqt hdr hd1 hQ' hx hrv hrn hl HS HQ
          obtain ⟨b0, -⟩ := HX.out.at_ 0 _ rfl
          obtain ⟨b1, -⟩ := HX.out.at_ 1 _ rfl
          have hrw := HROW.out wr HB.out.1 x hxN
          rw [HRV.out] at hrw
          go_upto_if 44 with (fail)
          go_loopw [9, 7] (fun i q7 wi => ∃ j : Nat, i = I j ∧ j ≤ l.length ∧ Hid (QueueAt wi (B + 1) 3 1 q7 ((scans (stT L) (roomL L f) s ys (l.take j)).length + 1 - (kk + 1)) (nodesV ((ordL L s (scans (stT L) (roomL L f) s ys (l.take j))).drop (kk + 1)))) ∧ Hid (Box wi B ((thL NN (byD L s (scans (stT L) (roomL L f) s ys (l.take j)))).map I)) ∧ Hid (Below w.heap.size w wi ∧ B < wi.heap.size) ∧ Hid (Box wi w.heap.size [.slice A M ca, .slice (some ⟨ob, 0, none⟩) NN NN])) (fun i _ _ => l.length - (intOf i).toNat)
          case atStart => exact ⟨0, rfl, by omega, HQ1, HS1, HB, HX⟩
          case round =>
            clear HB HX HQ1 HS1 b0 b1 hrw q0 hsl
            obtain ⟨j, rfl, hj, HQ, HS, HB, HX⟩ := hrel
            obtain ⟨b0, -⟩ := HX.out.at_ 0 _ rfl
            obtain ⟨b1, -⟩ := HX.out.at_ 1 _ rfl
            have hrw := HROW.out wr HB.out.1 x hxN
            rw [HRV.out] at hrw
            by_cases hjl : j < l.length
            · obtain ⟨p, hp⟩ : ∃ p, l[j] = p := ⟨_, rfl⟩
              have hpo : p ∈ outsL L x := by rw [HOL.out, ← hp]; exact List.getElem_mem hjl
              have hpL : p.1 < L.length := (outsL_mem.1 hpo).1
              have htN : stT L p < NN := HNK.out.stT hpo
              obtain ⟨ys', hys'⟩ : ∃ ys', scans (stT L) (roomL L f) s ys (l.take j) = ys' := ⟨_, rfl⟩
              have hkys : kk ≤ ys'.length := by
                have h1 := (scans_pre (to_ := stT L) (room := roomL L f) (s := s) (l.take j) ys).length_le
                rw [hys'] at h1
                omega
              have HSC : Hid (scans (stT L) (roomL L f) s ys (l.take (j + 1)) = scan (stT L) (roomL L f) s ys' p) := Lib.hid (by
                rw [List.take_succ_eq_append_getElem hjl, scans_app, hys', hp]
                rfl)
              have HYS := Lib.hid hys'
              rw [hys'] at HQ HS
              clear hys'
              obtain ⟨rg, hR, hrgW⟩ := HRN.out j hjl
              subst hR
              have hrow := hrgW wr HB.out.1
              rw [hp] at hrow
              obtain ⟨henc, ga, hA, hgaW⟩ := HARC.out p hpL
              subst hA
              obtain ⟨a0, a1, a2⟩ := hgaW wr HB.out.1
              obtain ⟨en, hen⟩ : ∃ y, encN p = y := ⟨_, rfl⟩
              obtain ⟨tp, htp⟩ : ∃ y, stT L p = y := ⟨_, rfl⟩
              obtain ⟨fp, hfp⟩ : ∃ y, stF L p = y := ⟨_, rfl⟩
              obtain ⟨zr, hzr⟩ : ∃ y, roomL L f p = y := ⟨_, rfl⟩
              have hf0 := HF.out p hpL
              rw [hzr] at hf0 a2
              rw [hen] at hrow a0 a1 a2 henc
              rw [htp] at a1 htN
              rw [hfp] at a0
              have HEI : Hid (encI p = ((en : Nat) : Int)) := Lib.hid (by rw [encI_nat, hen])
              have HTP := Lib.hid htp
              have HZR := Lib.hid hzr
              have j0 : (0 : Int) ≤ (j : Int) := by omega
              have j1 : (j : Int) < (l.length : Int) := by omega
              have hwj : IntKind.i64.wrap ((j : Int) + 1) = (j : Int) + 1 := IntWalk.i64_in _ (by omega)
              have e0 : (0 : Int) ≤ (en : Int) := by omega
              have e1 : (en : Int) < (M : Int) := by omega
              have t0 : (0 : Int) ≤ (tp : Int) := by omega
              have t1 : (tp : Int) < (NN : Int) := by omega
              clear hrgW hgaW hen htp hfp hzr hp
              go_upto_region 16 with (fail)
              obtain ⟨wk, hwk⟩ : ∃ y, wr.alloc (.cells #[I (fp : Nat), I (tp : Nat), I zr] 106) = y := ⟨_, rfl⟩
              have BT : Hid (Box wk wr.heap.size [I (fp : Nat), I (tp : Nat), I zr]) := Lib.hid (by rw [← hwk]; exact Box.new wr [I (fp : Nat), I (tp : Nat), I zr] 106)
              have HBk : Hid (Below w.heap.size w wk ∧ B < wk.heap.size) := Lib.hid (by rw [← hwk]; exact ⟨HB.out.1.alloc (by have := HB.out.1.size; omega) _, by have := HB.out.2; simp; omega⟩)
              have HXk : Hid (Box wk w.heap.size [.slice (some ⟨ga, 0, none⟩) M ca, .slice (some ⟨ob, 0, none⟩) NN NN]) := Lib.hid (by rw [← hwk]; exact HX.out.alloc _)
              have HSk : Hid (Box wk B ((thL NN (byD L s ys')).map I)) := Lib.hid (by rw [← hwk]; exact HS.out.alloc _)
              have HQk : Hid (QueueAt wk (B + 1) 3 1 u7 (ys'.length + 1 - (kk + 1)) (nodesV ((ordL L s ys').drop (kk + 1)))) := Lib.hid (by rw [← hwk]; exact HQ.out.keep (fun g cur _ _ hg => Below.heap_alloc wr _ g (Array.getElem?_eq_some_iff.1 hg).1) (by decide))
              rw [hwk]
              have hBr := HB.out.2
              clear hwk HB HX HS HQ a0 a1 a2 hrow hrw b0 b1
              obtain ⟨c1, -⟩ := BT.out.at_ 1 _ rfl
              obtain ⟨c2, -⟩ := BT.out.at_ 2 _ rfl
              by_cases hzz : 0 < zr
              · obtain ⟨r5, f5⟩ := HSk.out.at_ tp _ (thL_at _ htN)
                by_cases hm : tp ∈ ordL L s ys'
                · have hby := byD_yes hm
                  obtain ⟨bz, hbz⟩ : ∃ y, byD L s ys' tp = y := ⟨_, rfl⟩
                  rw [hbz] at r5 hby
                  have hbb : (bz == -1) = false := beq_eq_false_iff_ne.2 hby
                  have HS2 : Hid (scans (stT L) (roomL L f) s ys (l.take (j + 1)) = ys') := Lib.hid (by rw [HSC.out, scan, if_pos (.inr (by rw [HTP.out]; exact hm))])
                  clear hbz hm
                  go_wp2_with (fail)
                  go_roundw
                  case rel => exact ⟨j + 1, by go_num, by omega, by rw [HS2.out]; exact HQk, by rw [HS2.out]; exact HSk, HBk, HXk⟩
                  case measure => first | (simp [intOf]; done) | (simp [intOf]; omega)
                · have hbz := byD_no hm
                  rw [hbz] at r5
                  have HS2 : Hid (scans (stT L) (roomL L f) s ys (l.take (j + 1)) = ys' ++ [p]) := Lib.hid (by rw [HSC.out, scan, if_neg (fun e => e.elim (fun e => by have := HZR.out; omega) (fun e => hm (by rw [← HTP.out]; exact e)))])
                  have HBY : Hid (∀ q, (if q = tp then ((en : Nat) : Int) else byD L s ys' q) = byD L s (ys' ++ [p]) q) := Lib.hid fun q => by
                    rw [← HEI.out, ← HTP.out]
                    exact byD_push (by rw [HTP.out]; exact hm) q
                  have hyb : ys'.length ≤ 1000 := by
                    have h1 : ys' <+: bfsL L f s NN := by
                      rw [← HYS.out, HA.out.2.2]
                      have h2 : scans (stT L) (roomL L f) s (bfsL L f s kk) (l.take j) <+: scans (stT L) (roomL L f) s (bfsL L f s kk) l := by
                        have e : l = l.take j ++ l.drop j := (List.take_append_drop _ _).symm
                        conv => rhs; rw [e, scans_app]
                        exact scans_pre _ _
                      have h3 : bfsL L f s (kk + 1) = scans (stT L) (roomL L f) s (bfsL L f s kk) l := by
                        rw [← HOL.out]
                        exact bfs_some (by have := HXX.out; rw [HA.out.2.2] at this; exact this)
                      rw [← h3] at h2
                      have h4 := bfs_pre (to_ := stT L) (room := roomL L f) (outs := outsL L) (s := s) (k := kk + 1) (NN - (kk + 1))
                      rw [show kk + 1 + (NN - (kk + 1)) = NN by omega] at h4
                      exact h2.trans h4
                    have h2 := h1.length_le
                    have h3 : (bfsL L f s NN).length + 1 ≤ NN := bfs_len (room := roomL L f) (s := s) outs_from HNK.out.src (fun _ _ h => HNK.out.stT h) NN
                    omega
                  clear hbz hm HSC
                  go_upto_region 18 with (fail)
                  obtain ⟨w6, hw6⟩ : ∃ y, wk.setCell ⟨B, tp, none⟩ (I (en : Nat)) = y := ⟨_, rfl⟩
                  have HB6 : Hid (Below w.heap.size w w6 ∧ B < w6.heap.size) := Lib.hid (by rw [← hw6]; exact ⟨HBk.out.1.setCell (p := ⟨B, tp, none⟩) (by dsimp only; omega) _, by have := HBk.out.2; simpa using this⟩)
                  have HX6 : Hid (Box w6 w.heap.size [.slice (some ⟨ga, 0, none⟩) M ca, .slice (some ⟨ob, 0, none⟩) NN NN]) := Lib.hid (by rw [← hw6]; exact HXk.out.far (p := ⟨B, tp, none⟩) (by dsimp only; omega) _)
                  have hneB : B ≠ wr.heap.size := by omega
                  have BT6 : Box w6 wr.heap.size [I (fp : Nat), I (tp : Nat), I zr] := by rw [← hw6]; exact BT.out.far (p := ⟨B, tp, none⟩) hneB _
                  have HS6 : Hid (Box w6 B ((thL NN (byD L s (ys' ++ [p]))).map I)) := Lib.hid (by
                    have h := HSk.out.set tp (I (en : Nat))
                    rw [thL_set, hw6, thL_congr (g := byD L s (ys' ++ [p])) (fun q _ => HBY.out q)] at h
                    exact h)
                  have HQ6 : Hid (QueueAt (w6.alloc (.cells #[I (tp : Nat)] 3)) (B + 1) 3 1 u7 (ys'.length + 1 - (kk + 1)) (nodesV ((ordL L s ys').drop (kk + 1)))) := Lib.hid (by
                    have h1 : QueueAt w6 (B + 1) 3 1 u7 (ys'.length + 1 - (kk + 1)) (nodesV ((ordL L s ys').drop (kk + 1))) := by
                      rw [← hw6]
                      exact HQk.out.keep (fun g cur _ hb _ => Below.heap_setCell _ _ _ _ (by simp; omega)) (by decide)
                    exact h1.keep (fun g cur _ _ hg => Below.heap_alloc w6 _ g (Array.getElem?_eq_some_iff.1 hg).1) (by decide))
                  rw [hw6]
                  obtain ⟨c6, -⟩ := BT6.at_ 1 _ rfl
                  have hb6 : B + 1 ≤ (w6.alloc (.cells #[I (tp : Nat)] 3)).heap.size := by have := HB6.out.2; simp; omega
                  clear hw6 HSk HQk HBk HXk r5 f5 c1 c2 BT6
                  go_wp2_with (at_builtin; refine wpList_append_queue _ rfl _ _ 22 rfl (B + 1) 3 i0 (I 0) 1 8 Tryd.underlying22 hi0 hi1 hi2 hi3 rfl (by decide) _ (ys'.length + 1 - (kk + 1)) (nodesV ((ordL L s ys').drop (kk + 1))) rfl HQ6.out ⟨w6.heap.size, 0, none⟩ 1 1 [I (tp : Nat)] rfl rfl (cells_new w6 [I (tp : Nat)] 3) (by simp [Value.oneCell']) (by decide) (by unfold maxLen; omega) (by omega) hb6 ?_; intro v7 w7 row7 hq7 hg7 hr7; have HQ7 := Lib.hid hq7; have HG7 := Lib.hid hg7; have HR7 := Lib.hid hr7; clear hq7 hg7 hr7)
                  have hrne : ∀ r, row7 = some r → B + 1 ≤ r := fun r e => (HR7.out r e).1
                  go_roundw
                  case rel =>
                    refine ⟨j + 1, by go_num, by omega, Lib.hid ?_, Lib.hid ?_, Lib.hid ⟨?_, ?_⟩, Lib.hid ?_⟩
                    · rw [HS2.out]
                      have e : nodesV ((ordL L s (ys' ++ [p])).drop (kk + 1)) = nodesV ((ordL L s ys').drop (kk + 1)) ++ [I (tp : Nat)] := by
                        unfold ordL
                        rw [ordS_app, List.drop_append_of_le_length (by rw [ordS_len]; omega)]
                        simp only [nodesV, List.map_append, List.map_cons, List.map_nil]
                        rw [HTP.out]
                      rw [e, List.length_append, List.length_singleton, show ys'.length + 1 + 1 - (kk + 1) = ys'.length + 1 - (kk + 1) + 1 by omega]
                      exact HQ7.out
                    · rw [HS2.out]
                      exact (HS6.out.alloc _).grown HG7.out (fun e => by have := hrne B e; omega)
                    · exact (HB6.out.1.alloc (by have := HB6.out.1.size; omega) _).grown HG7.out (by have := HB6.out.1.size; simp; omega) (fun r e => by have := hrne r e; omega)
                    · have := HG7.out.size; omega
                    · exact (HX6.out.alloc _).grown HG7.out (fun e => by have := hrne _ e; omega)
                  case measure => first | (simp [intOf]; done) | (simp [intOf]; omega)
              · have hz0 : zr = 0 := by omega
                have HS2 : Hid (scans (stT L) (roomL L f) s ys (l.take (j + 1)) = ys') := Lib.hid (by rw [HSC.out, scan, if_pos (.inl (by rw [HZR.out, hz0]))])
                clear hz0
                go_wp2_with (fail)
                go_roundw
                case rel => exact ⟨j + 1, by go_num, by omega, by rw [HS2.out]; exact HQk, by rw [HS2.out]; exact HSk, HBk, HXk⟩
                case measure => first | (simp [intOf]; done) | (simp [intOf]; omega)
            · have j1 : ¬ (j : Int) < (l.length : Int) := by omega
              obtain rfl : j = l.length := by omega
              rw [List.take_length] at HQ HS
              have HB1 : Hid (gk - 1 + (kk + 1) = NN + 1 ∧ kk + 1 ≤ (scans (stT L) (roomL L f) s ys l).length + 1 ∧ scans (stT L) (roomL L f) s ys l = bfsL L f s (kk + 1)) := Lib.hid (by
                have h1 := (scans_pre (to_ := stT L) (room := roomL L f) (s := s) l ys).length_le
                have h2 := HA.out
                refine ⟨by omega, by omega, ?_⟩
                rw [← HOL.out, h2.2.2]
                exact (bfs_some (by have := HXX.out; rw [h2.2.2] at this; exact this)).symm)
              have hgk : gk - 1 < gk := by have := HA.out; omega
              clear HA HXX
              go_wp2_with (fail)
              go_roundg (gk - 1)
              case measure => exact hgk
              case rel => exact ⟨kk + 1, _, HB1, HQ, HS, HB, HX⟩
        · have HYE : Hid (ys = bfsL L f s NN) := Lib.hid (by
            have h2 := HA.out.2.2
            have h1 : bfsL L f s kk = bfsL L f s NN := bfs_end (N := NN) (by show (bfsL L f s kk).length + 1 ≤ kk; have := HA.out.2.1; rw [← h2]; omega) (by have := HA.out.2.1; omega)
            rw [h2, h1])
          obtain ⟨_, ad, cap, hv, _⟩ := HQ.out
          rw [show ys.length + 1 - kk = 0 by omega] at hv
          clear HQ HA
          subst hv
          go_wp2_with (fail)
          refine bodyPost_ret (v := .slice (some ⟨B, 0, none⟩) NN NN) ?_ rfl ?_
          · simp [results, Tryd.results48, go_sem]
          · exact ⟨B, rfl, by rw [← HYE.out]; exact HS.out, by omega, HB.out.1⟩
end Go.Proofs.YtomfnldlnoiloaaDoor
