/- The network before a view. -/
import Derived.Test.YtomfnldlnoiloaaDoorS2
import Derived.Carry
namespace Go.Proofs.YtomfnldlnoiloaaDoor
set_option linter.unusedVariables false
set_option linter.unusedSimpArgs false
open Go Go.RowKit Go.Maps

structure NwInv (w : World) (v : Vis) (A1 A2 A3 : Option Addr) (s1 s2 s3 p m : Nat) (L : List Arc3) (W : World) : Prop where
  b2 : Box W w.heap.size [.slice A1 v.rm.length s1, .slice A2 v.tr.length s2, .slice A3 v.ar.length s3]
  b3 : Box W (w.heap.size + 1) [I p, I m]
  bl : Below w.heap.size w W
  nt : NetL (w.heap.size + 1 + 1) (w.heap.size + 1 + 1) (snkN v m + 1) (ktv v.n (srcN v m)) L W
section
variable {w : World} {v : Vis} {A1 A2 A3 : Option Addr} {s1 s2 s3 p m : Nat} {L : List Arc3} {W : World}
theorem NwInv.get (h : NwInv w v A1 A2 A3 s1 s2 s3 p m L W) : (W.cell? ⟨w.heap.size, 0, none⟩ = some (.slice A1 v.rm.length s1) ∧ W.cell? ⟨w.heap.size, 1, none⟩ = some (.slice A2 v.tr.length s2) ∧ W.cell? ⟨w.heap.size, 2, none⟩ = some (.slice A3 v.ar.length s3)) ∧ W.cell? ⟨w.heap.size + 1, 0, none⟩ = some (I p) ∧ W.cell? ⟨w.heap.size + 1, 1, none⟩ = some (I m) :=
  ⟨⟨(h.b2.at_ 0 _ rfl).1, (h.b2.at_ 1 _ rfl).1, (h.b2.at_ 2 _ rfl).1⟩, (h.b3.at_ 0 _ rfl).1, (h.b3.at_ 1 _ rfl).1⟩
theorem NwInv.later {W' : World} (h : NwInv w v A1 A2 A3 s1 s2 s3 p m L W) (hB : Below W.heap.size W W') : NwInv w v A1 A2 A3 s1 s2 s3 p m L W' := ⟨h.b2.call hB, h.b3.call hB, h.bl.trans (hB.mono h.bl.size), h.nt.later hB⟩
theorem NwInv.add (h : NwInv w v A1 A2 A3 s1 s2 s3 p m L W) (hv : VisOk v) (hm : m ≤ 60) {x y : Nat} (hx : x < snkN v m + 1) (hy : y < snkN v m + 1) (room : Int) (hl : L.length ≤ 4000) (xa xb xc : Int) (hxk : (ktv v.n (srcN v m)).a x = xa ∧ (ktv v.n (srcN v m)).b x = xb ∧ (ktv v.n (srcN v m)).c x = xc) (ya yb yc : Int) (hyk : (ktv v.n (srcN v m)).a y = ya ∧ (ktv v.n (srcN v m)).b y = yb ∧ (ktv v.n (srcN v m)).c y = yc)
    (L' : List Arc3) (hL' : L' = L ++ [(x, y, room)]) (W' : World) (hB : Below W.heap.size W W') (tb c : Nat) (c0 : W'.cell? ⟨tb, 0, none⟩ = some (I ya)) (c1 : W'.cell? ⟨tb, 1, none⟩ = some (I yb)) (c2 : W'.cell? ⟨tb, 2, none⟩ = some (I yc)) :
    Calls Tryd.prog 53 #[.map (some (w.heap.size + 1 + 1)), kn xa xb xc, I room, .slice (some ⟨tb, 0, none⟩) 1 c] W' fun e w' => (∃ u, e = .returned u) ∧ NwInv w v A1 A2 A3 s1 s2 s3 p m L' w' := by
  subst hL'
  have h' := h.later hB
  refine (add53L h'.nt (ktv_ok (n := v.n) (s := srcN v m) (by have := srcN_le hv hm; omega)) hx hy room hl xa xb xc hxk ya yb yc hyk tb c c0 c1 c2).mono ?_
  rintro e w' ⟨h1, h2, h3⟩
  exact ⟨h1, h'.b2.below h2 (by omega), h'.b3.below h2 (by omega), h'.bl.trans (h2.mono (by omega)), h3⟩
end
theorem ktv_at (v : Vis) {m q t : Nat} (hq : q < v.rm.length) (ht : t ≤ m) : (ktv v.n (srcN v m)).a (nd v.n q t) = q ∧ (ktv v.n (srcN v m)).b (nd v.n q t) = t ∧ (ktv v.n (srcN v m)).c (nd v.n q t) = 0 := ktv_nd (m := m) (show q < v.n from hq) ht
set_option maxRecDepth 100000 in
set_option maxHeartbeats 8000000 in
theorem newNet40 (v : Vis) (hv : VisOk v) (p m : Nat) (hp : p < v.n) (hm : m ≤ 60) (A1 A2 A3 : Option Addr) (s1 s2 s3 : Nat) (w : World) (hI : VisAt w w.heap.size v A1 A2 A3) (hG : GlobOk w) :
    Calls Tryd.prog 40 #[visV v A1 A2 A3 s1 s2 s3, sd p m] w fun e w' => ∃ b, e = .returned (.map (some b)) ∧ Below w.heap.size w w' ∧ NetL (w.heap.size + 1 + 1) b (snkN v m + 1) (ktv v.n (srcN v m)) (netP v p m) w' := by
  have HV := Lib.hid hv
  have hn8 : 1 ≤ v.rm.length ∧ v.rm.length ≤ 8 := hv.n
  have htl := hv.tl
  have hal := hv.al
  have hp0 : (0 : Int) ≤ (p : Int) := by omega
  have hp1 : (p : Int) < (v.rm.length : Int) := by have : p < v.rm.length := hp; omega
  have hmk := fun W => run_makeMap (P := Tryd.prog) 77 W
  have hwm : IntKind.i64.wrap ((m : Int) + 1) = (m : Int) + 1 := IntWalk.i64_in _ (by omega)
  have HS0 : Hid (NwInv w v A1 A2 A3 s1 s2 s3 p m (pT v m 0) (((w.alloc (.cells #[.slice A1 v.rm.length s1, .slice A2 v.tr.length s2, .slice A3 v.ar.length s3] 26)).alloc (.cells #[I p, I m] 46)).alloc (.map #[] 0))) := Lib.hid (by
    rw [pT_zero]
    have h3 := Box.new (w.alloc (.cells #[.slice A1 v.rm.length s1, .slice A2 v.tr.length s2, .slice A3 v.ar.length s3] 26)) [I p, I m] 46
    have hn := NetL.new ((w.alloc (.cells #[.slice A1 v.rm.length s1, .slice A2 v.tr.length s2, .slice A3 v.ar.length s3] 26)).alloc (.cells #[I p, I m] 46)) (snkN v m + 1) (ktv v.n (srcN v m)) (base := w.heap.size + 1 + 1) (by simp)
    simp only [World.size_alloc] at h3 hn
    exact ⟨((Box.new w [.slice A1 v.rm.length s1, .slice A2 v.tr.length s2, .slice A3 v.ar.length s3] 26).alloc _).alloc _, h3.alloc _, by (repeat' (first | assumption | exact Below.refl _ _ | refine Below.drew ?_ | refine below_drewN ?_ _ | refine Below.setCell ?_ (by first | omega | (simp; done) | (simp; omega)) _ | refine Below.alloc ?_ (by first | omega | (simp; done) | (simp; omega)) _ | refine Below.trans ?_ (Below.mono (by assumption) (by first | omega | (simp; done) | (simp; omega))))), hn⟩)
  have HRM : Hid (∀ W, Below w.heap.size w W → ∀ q, q < v.rm.length → ∃ b o, A1 = some ⟨b, o, none⟩ ∧ W.cell? ⟨b, o + q, none⟩ = some (I (v.room q))) := Lib.hid fun W hW q hq => by
    obtain ⟨b, o, h1, h2, h3⟩ := (hI.rm.below hW) (by omega)
    refine ⟨b, o, h1, ?_⟩
    rw [h3 q hq]
    simp [Vis.room, List.getD_eq_getElem?_getD, hq]
  have HTR : Hid (∀ W, Below w.heap.size w W → ∀ q (hq : q < v.tr.length), ∃ b o, A2 = some ⟨b, o, none⟩ ∧ W.cell? ⟨b, o + q * 4, none⟩ = some (I v.tr[q].1) ∧ W.cell? ⟨b, o + q * 4 + 1, none⟩ = some (I v.tr[q].2.1) ∧ W.cell? ⟨b, o + q * 4 + 2, none⟩ = some (I v.tr[q].2.2.1) ∧ W.cell? ⟨b, o + q * 4 + 3, none⟩ = some (I v.tr[q].2.2.2)) := Lib.hid fun W hW q hq => by
    obtain ⟨b, o, h1, h2, h3⟩ := (hI.tr.below hW) (by omega)
    exact ⟨b, o, h1, h3 q hq⟩
  have HAR : Hid (∀ W, Below w.heap.size w W → ∀ q (hq : q < v.ar.length), ∃ b o, A3 = some ⟨b, o, none⟩ ∧ W.cell? ⟨b, o + q * 3, none⟩ = some (I v.ar[q].1) ∧ W.cell? ⟨b, o + q * 3 + 1, none⟩ = some (I v.ar[q].2.1) ∧ W.cell? ⟨b, o + q * 3 + 2, none⟩ = some (I v.ar[q].2.2)) := Lib.hid fun W hW q hq => by
    obtain ⟨b, o, h1, h2, h3⟩ := (hI.ar.below hW) (by omega)
    exact ⟨b, o, h1, h3 q hq⟩
  have HGW : Hid (∀ W, Below w.heap.size w W → GlobOk W) := Lib.hid fun W h => hG.below h hG.z
  clear hv hI hG
  go_enter Tryd.func40, Tryd.ntmps40
  go_wp2_with (fail)
  generalize ((w.alloc (.cells #[.slice A1 v.rm.length s1, .slice A2 v.tr.length s2, .slice A3 v.ar.length s3] 26)).alloc (.cells #[I p, I m] 46)).alloc (.map #[] 0) = w0 at *
  have hg1 := HS0.out.get.2.2
  go_wp2
  go_loopw [18] (fun i wr => ∃ t : Nat, i = I t ∧ t ≤ m + 1 ∧ Hid (NwInv w v A1 A2 A3 s1 s2 s3 p m (pT v m t) wr)) (fun i _ => m + 1 - (intOf i).toNat)
  case atStart => exact ⟨0, rfl, by omega, HS0⟩
  case round =>
    obtain ⟨t, rfl, ht, HT⟩ := hrel
    by_cases hlt : t < m + 1
    · have hltZ : (t : Int) < (m : Int) + 1 := by omega
      have hwt : IntKind.i64.wrap ((t : Int) + 1) = (t : Int) + 1 := IntWalk.i64_in _ (by omega)
      obtain ⟨⟨x0, x1, _⟩, _, x4⟩ := HT.out.get
      obtain ⟨wt, hwt0⟩ : ∃ wt, wr = wt := ⟨_, rfl⟩
      rw [hwt0] at HT x0 x1 x4 ⊢
      clear hwt0 hg1
      go_wp2
      go_loopw [24] (fun i wr => ∃ q : Nat, i = I q ∧ q ≤ v.rm.length ∧ Hid (NwInv w v A1 A2 A3 s1 s2 s3 p m (pW v m t q) wr)) (fun i _ => v.rm.length - (intOf i).toNat)
      case atStart => exact ⟨0, rfl, by omega, by rw [pW_zero]; exact HT⟩
      case round =>
        obtain ⟨q, rfl, hq, HQ⟩ := hrel
        by_cases hql : q < v.rm.length
        · have hwq : IntKind.i64.wrap ((q : Int) + 1) = (q : Int) + 1 := IntWalk.i64_in _ (by omega)
          obtain ⟨⟨y0, _, _⟩, _, y4⟩ := HQ.out.get
          obtain ⟨rb, ro, hA1, hrc⟩ := HRM.out _ HQ.out.bl q hql
          subst hA1
          obtain ⟨r, hr⟩ : ∃ r, v.room q = r := ⟨_, rfl⟩
          rw [hr] at hrc
          have q0 : (0 : Int) ≤ (q : Int) := by omega
          have q1 : (q : Int) < (v.rm.length : Int) := by omega
          by_cases htm : t < m
          · have htm2 : (t : Int) < (m : Int) := by omega
            have HADD : Hid (∀ (W' : World), Below wr.heap.size wr W' → ∀ (tb c : Nat), W'.cell? ⟨tb, 0, none⟩ = some (I q) → W'.cell? ⟨tb, 1, none⟩ = some (I ((t : Int) + 1)) → W'.cell? ⟨tb, 2, none⟩ = some (I 0) → Calls Tryd.prog 53 #[.map (some (w.heap.size + 1 + 1)), kn q t 0, I r, .slice (some ⟨tb, 0, none⟩) 1 c] W' fun e w' => (∃ u, e = .returned u) ∧ NwInv w v (some ⟨rb, ro, none⟩) A2 A3 s1 s2 s3 p m (pW v m t (q + 1)) w') := Lib.hid fun W' hW' tb c c0 c1 c2 => by
              have w1 := wait_ok HV.out (m := m) (q := q) hql htm
              have w2 := pW_len HV.out m t q
              exact HQ.out.add HV.out hm (x := nd v.n q t) (y := nd v.n q (t + 1)) w1.1 w1.2.1 r (by omega) _ _ _ (ktv_at v hql (by omega)) _ _ _ (by simpa using ktv_at v (m := m) (t := t + 1) hql (by omega)) _ (by rw [pW_succ, if_pos htm]; unfold waitA; rw [hr]) W' hW' tb c c0 c1 c2
            have tok1 : Hid True := Lib.hid trivial
            clear HQ HRM HS0
            go_wp2_with (first
              | (have _t := tok1; go_at_call 52; refine (at52 _ _ _).mono ?_; rintro e w3 ⟨rfl, hB3⟩; clear tok1 _t)
              | (go_at_call 52; refine (at52 _ _ _).mono ?_; rintro e w4 ⟨rfl, hB4⟩; have hB5 := (below_call hB3 hB4).alloc (below_call hB3 hB4).size (.cells #[I q, I ((t : Int) + 1), I 0] 89); have hbx := Box.new w4 [I q, I ((t : Int) + 1), I 0] 89)
              | (go_at_call 53; refine (HADD.out _ hB5 w4.heap.size 1 (hbx.at_ 0 _ rfl).1 (hbx.at_ 1 _ rfl).1 (hbx.at_ 2 _ rfl).1).mono ?_; rintro e w6 ⟨⟨u5, rfl⟩, hN6⟩)
              | fail)
            have HN6 := Lib.hid hN6
            clear hN6 HADD hB3 hB4 hB5 hbx
            go_wp2_with (fail)
            go_roundw
            case rel => first | exact ⟨q + 1, by go_num, by omega, HN6⟩ | ((repeat apply Exists.intro); refine ⟨?_, rfl⟩; exact ⟨q + 1, by go_num, by omega, HN6⟩)
            case measure => simp [intOf]; omega
          · have HQ2 : Hid (NwInv w v (some ⟨rb, ro, none⟩) A2 A3 s1 s2 s3 p m (pW v m t (q + 1)) wr) := Lib.hid (by rw [pW_succ, if_neg htm, List.append_nil]; exact HQ.out)
            have htm2 : ¬ (t : Int) < (m : Int) := by omega
            go_wp2
            go_roundw
            case rel => exact ⟨q + 1, by go_num, by omega, HQ2⟩
            case measure => simp [intOf]; omega
        · obtain rfl : q = v.rm.length := by omega
          have HR0 : Hid (NwInv w v A1 A2 A3 s1 s2 s3 p m (pR v m t 0) wr) := Lib.hid (by rw [pR_zero]; exact HQ.out)
          obtain ⟨⟨_, y1, _⟩, _, _⟩ := HQ.out.get
          clear HQ
          go_wp2
          go_loopw [50] (fun i wr => ∃ j : Nat, i = I j ∧ j ≤ v.tr.length ∧ Hid (NwInv w v A1 A2 A3 s1 s2 s3 p m (pR v m t j) wr)) (fun i _ => v.tr.length - (intOf i).toNat)
          case atStart => exact ⟨0, rfl, by omega, HR0⟩
          case round =>
            obtain ⟨j, rfl, hj, HJ⟩ := hrel
            clear HR0 HT
            by_cases hjl : j < v.tr.length
            · have hwj : IntKind.i64.wrap ((j : Int) + 1) = (j : Int) + 1 := IntWalk.i64_in _ (by omega)
              obtain ⟨⟨y0, _, _⟩, _, y4⟩ := HJ.out.get
              have hzz : w.heap.size + 1 < wr.heap.size := HJ.out.b3.1
              obtain ⟨rb, ro, hA2, hc0, hc1, hc2, hc3⟩ := HTR.out _ HJ.out.bl j hjl
              subst hA2
              have htrj := HV.out.tr _ (List.getElem_mem hjl)
              have hn88 := HV.out.n
              obtain ⟨f, hf⟩ : ∃ f : Nat, v.tr[j].1 = (f : Int) := ⟨_, (Int.toNat_of_nonneg htrj.1.1).symm⟩
              obtain ⟨g, hg⟩ : ∃ f : Nat, v.tr[j].2.1 = (f : Int) := ⟨_, (Int.toNat_of_nonneg htrj.2.1.1).symm⟩
              have hd0 : 0 ≤ v.tr[j].2.2.1 := by have := htrj.2.2.2.1; omega
              obtain ⟨d, hd⟩ : ∃ f : Nat, v.tr[j].2.2.1 = (f : Int) := ⟨_, (Int.toNat_of_nonneg hd0).symm⟩
              clear hd0
              obtain ⟨r, hr⟩ : ∃ r, v.tr[j].2.2.2 = r := ⟨_, rfl⟩
              have HPR := Lib.hid (pR_succ v m t hjl)
              rw [hf, hg, hd, hr] at HPR
              rw [hf] at hc0
              rw [hg] at hc1
              rw [hd] at hc2
              rw [hr] at hc3
              have hfb : f < v.rm.length := by have h1 := htrj.1.2; rw [hf] at h1; have h2 : v.n = v.rm.length := rfl; omega
              have hgb : g < v.rm.length := by have h1 := htrj.2.1.2; rw [hg] at h1; have h2 : v.n = v.rm.length := rfl; omega
              have hdb : 1 ≤ d ∧ d ≤ 60 := by have h1 := htrj.2.2.2.1; rw [hd] at h1; omega
              clear htrj hf hg hd hr hn88
              simp only [Int.toNat_natCast] at HPR
              have j0 : (0 : Int) ≤ (j : Int) := by omega
              have j1 : (j : Int) < (v.tr.length : Int) := by omega
              have hwd : IntKind.i64.wrap ((t : Int) + (d : Int)) = (t : Int) + d := IntWalk.i64_in _ (by omega)
              by_cases hdm : t + d ≤ m
              · have hdm2 : (t : Int) + (d : Int) ≤ (m : Int) := by omega
                rw [if_pos hdm] at HPR
                have HADD : Hid (∀ (W' : World), Below wr.heap.size wr W' → ∀ (tb c : Nat), W'.cell? ⟨tb, 0, none⟩ = some (I g) → W'.cell? ⟨tb, 1, none⟩ = some (I ((t : Int) + d)) → W'.cell? ⟨tb, 2, none⟩ = some (I 0) → Calls Tryd.prog 53 #[.map (some (w.heap.size + 1 + 1)), kn f t 0, I r, .slice (some ⟨tb, 0, none⟩) 1 c] W' fun e w' => (∃ u, e = .returned u) ∧ NwInv w v A1 (some ⟨rb, ro, none⟩) A3 s1 s2 s3 p m (pR v m t (j + 1)) w') := Lib.hid fun W' hW' tb c c0 c1 c2 => by
                  have w1 := nd_src (v := v) (m := m) (p := f) (t := t) hfb (by omega)
                  have w3 := nd_src (v := v) (m := m) (p := g) (t := t + d) hgb (by omega)
                  have w2 := pR_len HV.out m t j
                  exact HJ.out.add HV.out hm (x := nd v.n f t) (y := nd v.n g (t + d)) (by unfold snkN; omega) (by unfold snkN; omega) r (by omega) _ _ _ (ktv_at v hfb (by omega)) _ _ _ (by simpa using ktv_at v (m := m) (t := t + d) hgb (by omega)) _ HPR.out W' hW' tb c c0 c1 c2
                have HBB : Hid (∀ W, Below (wr.alloc (.cells #[I f, I g, I d, I r] 51)).heap.size (wr.alloc (.cells #[I f, I g, I d, I r] 51)) W → Box W wr.heap.size [I f, I g, I d, I r] ∧ Below wr.heap.size wr W) := Lib.hid fun W h => ⟨(Box.new wr [I f, I g, I d, I r] 51).call h, ((Below.refl _ wr).alloc (Nat.le_refl _) _).trans (h.mono (by simp))⟩
                have HCB : Hid (∀ W, Box W wr.heap.size [I f, I g, I d, I r] → W.cell? ⟨wr.heap.size, 0, none⟩ = some (I f) ∧ W.cell? ⟨wr.heap.size, 1, none⟩ = some (I g) ∧ W.cell? ⟨wr.heap.size, 2, none⟩ = some (I d) ∧ W.cell? ⟨wr.heap.size, 3, none⟩ = some (I r)) := Lib.hid fun W h => ⟨(h.at_ 0 _ rfl).1, (h.at_ 1 _ rfl).1, (h.at_ 2 _ rfl).1, (h.at_ 3 _ rfl).1⟩
                clear HJ HPR HTR HRM HS0
                go_wp2_with (fail)
                generalize hwa : wr.alloc (.cells #[I f, I g, I d, I r] 51) = wa at *
                clear hwa
                refine (wpIn_wide (n := 9)).1 ?_
                refine wpIn_region_plan (Plan.ons [0, 1, 2, 3, 4, 6, 7, 8, 9, 10, 11, 12, 13, 14, 5, 15, 16, 17] .fin) [0, 1, 2, 3, 4, 6, 7, 8, 9, 10, 11, 12, 13, 14] (fun W => Below wa.heap.size wa W) [17] rfl (by kernel_rfl) (by kernel_rfl) (fun _ d _ _ _ h => by cases d <;> exact h) (Below.refl _ _).drew ?_
                (refine ordQ_held (.map (some (w.heap.size + 1 + 1))) rfl rfl rfl rfl (fun W' hC' => ?_) (fun K hK => ?_); (focus (obtain ⟨g0, g1, g2, g3⟩ := HCB.out _ (HBB.out _ hC').1; go_simp; try exact ⟨rfl, rfl⟩)); go_simp; refine hK _ ?_; clear hK K)
                (refine ordQ_held (.func (.func 52) #[] #[]) rfl rfl rfl rfl (fun W' hC' => ?_) (fun K hK => ?_); (focus (obtain ⟨g0, g1, g2, g3⟩ := HCB.out _ (HBB.out _ hC').1; go_simp; try exact ⟨rfl, rfl⟩)); go_simp; refine hK _ ?_; clear hK K)
                (refine ordQ_held (.pointer (some ⟨wr.heap.size, 0, none⟩)) rfl rfl rfl rfl (fun W' hC' => ?_) (fun K hK => ?_); (focus (obtain ⟨g0, g1, g2, g3⟩ := HCB.out _ (HBB.out _ hC').1; go_simp; try exact ⟨rfl, rfl⟩)); go_simp; refine hK _ ?_; clear hK K)
                (refine ordQ_held (I f) rfl rfl rfl rfl (fun W' hC' => ?_) (fun K hK => ?_); (focus (obtain ⟨g0, g1, g2, g3⟩ := HCB.out _ (HBB.out _ hC').1; go_simp; try exact ⟨rfl, rfl⟩)); go_simp; refine hK _ ?_; clear hK K)
                (refine ordQ_held (I t) rfl rfl rfl rfl (fun W' hC' => ?_) (fun K hK => ?_); (focus (obtain ⟨g0, g1, g2, g3⟩ := HCB.out _ (HBB.out _ hC').1; go_simp; try exact ⟨rfl, rfl⟩)); go_simp; refine hK _ ?_; clear hK K)
                (refine ordQ_held (.pointer (some ⟨wr.heap.size, 3, none⟩)) rfl rfl rfl rfl (fun W' hC' => ?_) (fun K hK => ?_); (focus (obtain ⟨g0, g1, g2, g3⟩ := HCB.out _ (HBB.out _ hC').1; go_simp; try exact ⟨rfl, rfl⟩)); go_simp; refine hK _ ?_; clear hK K)
                (refine ordQ_held (I r) rfl rfl rfl rfl (fun W' hC' => ?_) (fun K hK => ?_); (focus (obtain ⟨g0, g1, g2, g3⟩ := HCB.out _ (HBB.out _ hC').1; go_simp; try exact ⟨rfl, rfl⟩)); go_simp; refine hK _ ?_; clear hK K)
                (refine ordQ_held (.func (.func 52) #[] #[]) rfl rfl rfl rfl (fun W' hC' => ?_) (fun K hK => ?_); (focus (obtain ⟨g0, g1, g2, g3⟩ := HCB.out _ (HBB.out _ hC').1; go_simp; try exact ⟨rfl, rfl⟩)); go_simp; refine hK _ ?_; clear hK K)
                (refine ordQ_held (.pointer (some ⟨wr.heap.size, 1, none⟩)) rfl rfl rfl rfl (fun W' hC' => ?_) (fun K hK => ?_); (focus (obtain ⟨g0, g1, g2, g3⟩ := HCB.out _ (HBB.out _ hC').1; go_simp; try exact ⟨rfl, rfl⟩)); go_simp; refine hK _ ?_; clear hK K)
                (refine ordQ_held (I g) rfl rfl rfl rfl (fun W' hC' => ?_) (fun K hK => ?_); (focus (obtain ⟨g0, g1, g2, g3⟩ := HCB.out _ (HBB.out _ hC').1; go_simp; try exact ⟨rfl, rfl⟩)); go_simp; refine hK _ ?_; clear hK K)
                (refine ordQ_held (I t) rfl rfl rfl rfl (fun W' hC' => ?_) (fun K hK => ?_); (focus (obtain ⟨g0, g1, g2, g3⟩ := HCB.out _ (HBB.out _ hC').1; go_simp; try exact ⟨rfl, rfl⟩)); go_simp; refine hK _ ?_; clear hK K)
                (refine ordQ_held (.pointer (some ⟨wr.heap.size, 2, none⟩)) rfl rfl rfl rfl (fun W' hC' => ?_) (fun K hK => ?_); (focus (obtain ⟨g0, g1, g2, g3⟩ := HCB.out _ (HBB.out _ hC').1; go_simp; try exact ⟨rfl, rfl⟩)); go_simp; refine hK _ ?_; clear hK K)
                (refine ordQ_held (I d) rfl rfl rfl rfl (fun W' hC' => ?_) (fun K hK => ?_); (focus (obtain ⟨g0, g1, g2, g3⟩ := HCB.out _ (HBB.out _ hC').1; go_simp; try exact ⟨rfl, rfl⟩)); go_simp; refine hK _ ?_; clear hK K)
                (refine ordQ_held (I ((t : Int) + d)) rfl rfl rfl rfl (fun W' hC' => ?_) (fun K hK => ?_); (focus (obtain ⟨g0, g1, g2, g3⟩ := HCB.out _ (HBB.out _ hC').1; go_simp; try exact ⟨rfl, rfl⟩)); go_simp; refine hK _ ?_; clear hK K)
                refine ordQ_hv rfl rfl rfl (fun K hK => ?_)
                gi_wp2_with (first | (refine And.intro trivial ?_; gi_at_call 52; refine (callsIn_wide.2 (at52 _ _ _)).mono ?_; rintro e w3 ⟨rfl, hB3⟩) | fail)
                have hB3 := below_call (Below.refl _ wa).drew hB3
                refine hK _ _ (fun _ => hB3) ?_
                clear hK K
                refine ordQ_hv rfl rfl rfl (fun K hK => ?_)
                gi_wp2_with (first | (refine And.intro trivial ?_; gi_at_call 52; refine (callsIn_wide.2 (at52 _ _ _)).mono ?_; rintro e w4 ⟨rfl, hB4⟩) | fail)
                have hB4 := below_call hB3 hB4
                refine hK _ _ (fun _ => hB4) ?_
                clear hK K
                refine ordQ_hv rfl rfl rfl (fun K hK => ?_)
                gi_wp2
                have hB5 := hB4.alloc hB4.size (.cells #[I g, I ((t : Int) + d), I 0] 89)
                have hbx := Box.new w4 [I g, I ((t : Int) + d), I 0] 89
                refine hK _ _ (fun _ => hB5) ?_
                clear hK K
                refine ordQ_hv rfl rfl rfl (fun K hK => ?_)
                gi_wp2_with (first | (refine And.intro trivial ?_; gi_at_call 53; refine (callsIn_wide.2 (HADD.out _ (HBB.out _ hB5).2 w4.heap.size 1 (hbx.at_ 0 _ rfl).1 (hbx.at_ 1 _ rfl).1 (hbx.at_ 2 _ rfl).1)).mono ?_; rintro e w6 ⟨⟨u5, rfl⟩, hN6⟩) | fail)
                refine hK _ _ (fun h => by cases h) ?_
                clear hK K
                refine ordQ_fin ?_
                have HN6 := Lib.hid hN6
                clear hN6 HADD hB3 hB4 hB5 hbx HBB HCB
                go_wp2_with (fail)
                go_roundw
                case rel => first | exact ⟨j + 1, by go_num, by omega, HN6⟩ | ((repeat apply Exists.intro); refine ⟨?_, rfl⟩; exact ⟨j + 1, by go_num, by omega, HN6⟩)
                case measure => first | (simp [intOf]; done) | (simp [intOf]; omega)
              · rw [if_neg hdm, List.append_nil] at HPR
                have hdm2 : ¬ (t : Int) + (d : Int) ≤ (m : Int) := by omega
                have HJ2 : Hid (NwInv w v A1 (some ⟨rb, ro, none⟩) A3 s1 s2 s3 p m (pR v m t (j + 1)) (wr.alloc (.cells #[I f, I g, I d, I r] 51))) := Lib.hid (by rw [HPR.out]; exact HJ.out.later (below1 _ _))
                clear HJ HPR HTR HRM HS0
                go_wp2
                go_roundw
                case rel => exact ⟨j + 1, by go_num, by omega, HJ2⟩
                case measure => simp [intOf]; omega
            · obtain rfl : j = v.tr.length := by omega
              have HT2 : Hid (NwInv w v A1 A2 A3 s1 s2 s3 p m (pT v m (t + 1)) wr) := Lib.hid (by rw [pT_succ]; exact HJ.out)
              clear HJ
              go_wp2
              go_roundw
              case rel => exact ⟨t + 1, by go_num, by omega, HT2⟩
              case measure => simp [intOf]; omega
    · obtain rfl : t = m + 1 := by omega
      have HA0 : Hid (NwInv w v A1 A2 A3 s1 s2 s3 p m (pA v m 0) wr) := Lib.hid (by rw [pA_zero]; exact HT.out)
      obtain ⟨⟨_, _, x2⟩, _, _⟩ := HT.out.get
      have hltZ : ¬ ((m + 1 : Nat) : Int) < (m : Int) + 1 := by omega
      clear HT
      clear HTR
      go_wp2
      go_loopw [84] (fun i wr => ∃ j : Nat, i = I j ∧ j ≤ v.ar.length ∧ Hid (NwInv w v A1 A2 A3 s1 s2 s3 p m (pA v m j) wr)) (fun i _ => v.ar.length - (intOf i).toNat)
      case atStart => exact ⟨0, rfl, by omega, HA0⟩
      case round =>
        obtain ⟨j, rfl, hj, HJ⟩ := hrel
        clear HA0
        by_cases hjl : j < v.ar.length
        · have hwj : IntKind.i64.wrap ((j : Int) + 1) = (j : Int) + 1 := IntWalk.i64_in _ (by omega)
          obtain ⟨_, _, y4⟩ := HJ.out.get
          have hzz : w.heap.size + 1 < wr.heap.size := HJ.out.b3.1
          obtain ⟨rb, ro, hA3, hc0, hc1, hc2⟩ := HAR.out _ HJ.out.bl j hjl
          subst hA3
          have harj := HV.out.ar _ (List.getElem_mem hjl)
          have hn88 := HV.out.n
          obtain ⟨mi, hmi⟩ : ∃ f : Nat, v.ar[j].1 = (f : Int) := ⟨_, (Int.toNat_of_nonneg harj.1.1).symm⟩
          obtain ⟨pl, hpl⟩ : ∃ f : Nat, v.ar[j].2.1 = (f : Int) := ⟨_, (Int.toNat_of_nonneg harj.2.1.1).symm⟩
          obtain ⟨pe, hpe⟩ : ∃ r, v.ar[j].2.2 = r := ⟨_, rfl⟩
          have HPA := Lib.hid (pA_succ v m hjl)
          rw [hmi, hpl, hpe] at HPA
          rw [hmi] at hc0
          rw [hpl] at hc1
          rw [hpe] at hc2
          have hplb : pl < v.rm.length := by have h1 := harj.2.1.2; rw [hpl] at h1; have h2 : v.n = v.rm.length := rfl; omega
          have hmib : mi ≤ 60 := by have h1 := harj.1.2; rw [hmi] at h1; omega
          clear harj hmi hpl hpe hn88
          simp only [Int.toNat_natCast] at HPA
          have j0 : (0 : Int) ≤ (j : Int) := by omega
          have j1 : (j : Int) < (v.ar.length : Int) := by omega
          by_cases hmm : mi ≤ m
          · have hmm2 : (mi : Int) ≤ (m : Int) := by omega
            rw [if_pos hmm] at HPA
            have HADD : Hid (∀ (W' : World), Below wr.heap.size wr W' → ∀ (tb c : Nat), W'.cell? ⟨tb, 0, none⟩ = some (I pl) → W'.cell? ⟨tb, 1, none⟩ = some (I mi) → W'.cell? ⟨tb, 2, none⟩ = some (I 0) → Calls Tryd.prog 53 #[.map (some (w.heap.size + 1 + 1)), kn 0 0 1, I pe, .slice (some ⟨tb, 0, none⟩) 1 c] W' fun e w' => (∃ u, e = .returned u) ∧ NwInv w v A1 A2 (some ⟨rb, ro, none⟩) s1 s2 s3 p m (pA v m (j + 1)) w') := Lib.hid fun W' hW' tb c c0 c1 c2 => by
              have w3 := nd_src (v := v) (m := m) (p := pl) (t := mi) hplb (by omega)
              have w2 := pA_len HV.out m j
              exact HJ.out.add HV.out hm (x := srcN v m) (y := nd v.n pl mi) (by unfold snkN; omega) (by unfold snkN; omega) pe (by omega) _ _ _ (ktv_src v.n (srcN v m)) _ _ _ (ktv_at v (m := m) (t := mi) hplb (by omega)) _ HPA.out W' hW' tb c c0 c1 c2
            have HBB : Hid (∀ W, Below (wr.alloc (.cells #[I mi, I pl, I pe] 49)).heap.size (wr.alloc (.cells #[I mi, I pl, I pe] 49)) W → (Box W wr.heap.size [I mi, I pl, I pe] ∧ GlobOk W) ∧ Below wr.heap.size wr W) := Lib.hid fun W h => ⟨⟨(Box.new wr [I mi, I pl, I pe] 49).call h, HGW.out _ (HJ.out.bl.trans ((below_call (below1 wr _) h).mono HJ.out.bl.size))⟩, ((Below.refl _ wr).alloc (Nat.le_refl _) _).trans (h.mono (by simp))⟩
            have HCB : Hid (∀ W, (Box W wr.heap.size [I mi, I pl, I pe] ∧ GlobOk W) → (W.cell? ⟨wr.heap.size, 0, none⟩ = some (I mi) ∧ W.cell? ⟨wr.heap.size, 1, none⟩ = some (I pl) ∧ W.cell? ⟨wr.heap.size, 2, none⟩ = some (I pe)) ∧ W.cell? ⟨0, 0, none⟩ = some (I 0) ∧ W.cell? ⟨0, 1, none⟩ = some (I 0) ∧ W.cell? ⟨0, 2, none⟩ = some (I 1)) := Lib.hid fun W h => ⟨⟨(h.1.at_ 0 _ rfl).1, (h.1.at_ 1 _ rfl).1, (h.1.at_ 2 _ rfl).1⟩, h.2.s⟩
            clear HJ HPA HAR HRM HS0
            go_wp2_with (fail)
            generalize hwa : wr.alloc (.cells #[I mi, I pl, I pe] 49) = wa at *
            clear hwa
            refine (wpIn_wide (n := 9)).1 ?_
            refine wpIn_region_plan (Plan.ons [0, 1, 2, 3, 4, 5, 6, 7, 8, 9, 10, 11] .fin) [0, 1, 2, 3, 4, 5, 6, 7, 8] (fun W => Below wa.heap.size wa W) [11] rfl (by kernel_rfl) (by kernel_rfl) (fun _ d _ _ _ h => by cases d <;> exact h) (Below.refl _ _).drew ?_
            (refine ordQ_held (.map (some (w.heap.size + 1 + 1))) rfl rfl rfl rfl (fun W' hC' => ?_) (fun K hK => ?_); (focus (obtain ⟨⟨g0, g1, g2⟩, g3, g4, g5⟩ := HCB.out _ (HBB.out _ hC').1; go_simp; try exact ⟨rfl, rfl⟩)); go_simp; refine hK _ ?_; clear hK K)
            (refine ordQ_held (kn 0 0 1) rfl rfl rfl rfl (fun W' hC' => ?_) (fun K hK => ?_); (focus (obtain ⟨⟨g0, g1, g2⟩, g3, g4, g5⟩ := HCB.out _ (HBB.out _ hC').1; go_simp; try exact ⟨rfl, rfl⟩)); go_simp; refine hK _ ?_; clear hK K)
            (refine ordQ_held (.pointer (some ⟨wr.heap.size, 2, none⟩)) rfl rfl rfl rfl (fun W' hC' => ?_) (fun K hK => ?_); (focus (obtain ⟨⟨g0, g1, g2⟩, g3, g4, g5⟩ := HCB.out _ (HBB.out _ hC').1; go_simp; try exact ⟨rfl, rfl⟩)); go_simp; refine hK _ ?_; clear hK K)
            (refine ordQ_held (I pe) rfl rfl rfl rfl (fun W' hC' => ?_) (fun K hK => ?_); (focus (obtain ⟨⟨g0, g1, g2⟩, g3, g4, g5⟩ := HCB.out _ (HBB.out _ hC').1; go_simp; try exact ⟨rfl, rfl⟩)); go_simp; refine hK _ ?_; clear hK K)
            (refine ordQ_held (.func (.func 52) #[] #[]) rfl rfl rfl rfl (fun W' hC' => ?_) (fun K hK => ?_); (focus (obtain ⟨⟨g0, g1, g2⟩, g3, g4, g5⟩ := HCB.out _ (HBB.out _ hC').1; go_simp; try exact ⟨rfl, rfl⟩)); go_simp; refine hK _ ?_; clear hK K)
            (refine ordQ_held (.pointer (some ⟨wr.heap.size, 1, none⟩)) rfl rfl rfl rfl (fun W' hC' => ?_) (fun K hK => ?_); (focus (obtain ⟨⟨g0, g1, g2⟩, g3, g4, g5⟩ := HCB.out _ (HBB.out _ hC').1; go_simp; try exact ⟨rfl, rfl⟩)); go_simp; refine hK _ ?_; clear hK K)
            (refine ordQ_held (I pl) rfl rfl rfl rfl (fun W' hC' => ?_) (fun K hK => ?_); (focus (obtain ⟨⟨g0, g1, g2⟩, g3, g4, g5⟩ := HCB.out _ (HBB.out _ hC').1; go_simp; try exact ⟨rfl, rfl⟩)); go_simp; refine hK _ ?_; clear hK K)
            (refine ordQ_held (.pointer (some ⟨wr.heap.size, 0, none⟩)) rfl rfl rfl rfl (fun W' hC' => ?_) (fun K hK => ?_); (focus (obtain ⟨⟨g0, g1, g2⟩, g3, g4, g5⟩ := HCB.out _ (HBB.out _ hC').1; go_simp; try exact ⟨rfl, rfl⟩)); go_simp; refine hK _ ?_; clear hK K)
            (refine ordQ_held (I mi) rfl rfl rfl rfl (fun W' hC' => ?_) (fun K hK => ?_); (focus (obtain ⟨⟨g0, g1, g2⟩, g3, g4, g5⟩ := HCB.out _ (HBB.out _ hC').1; go_simp; try exact ⟨rfl, rfl⟩)); go_simp; refine hK _ ?_; clear hK K)
            refine ordQ_hv rfl rfl rfl (fun K hK => ?_)
            gi_wp2_with (first | (refine And.intro trivial ?_; gi_at_call 52; refine (callsIn_wide.2 (at52 _ _ _)).mono ?_; rintro e w4 ⟨rfl, hB4⟩) | fail)
            have hB4 := below_call (Below.refl _ wa).drew hB4
            refine hK _ _ (fun _ => hB4) ?_
            clear hK K
            refine ordQ_hv rfl rfl rfl (fun K hK => ?_)
            gi_wp2
            have hB5 := hB4.alloc hB4.size (.cells #[I pl, I mi, I 0] 89)
            have hbx := Box.new w4 [I pl, I mi, I 0] 89
            refine hK _ _ (fun _ => hB5) ?_
            clear hK K
            refine ordQ_hv rfl rfl rfl (fun K hK => ?_)
            gi_wp2_with (first | (refine And.intro trivial ?_; gi_at_call 53; refine (callsIn_wide.2 (HADD.out _ (HBB.out _ hB5).2 w4.heap.size 1 (hbx.at_ 0 _ rfl).1 (hbx.at_ 1 _ rfl).1 (hbx.at_ 2 _ rfl).1)).mono ?_; rintro e w6 ⟨⟨u5, rfl⟩, hN6⟩) | fail)
            refine hK _ _ (fun h => by cases h) ?_
            clear hK K
            refine ordQ_fin ?_
            have HN6 := Lib.hid hN6
            clear hN6 HADD hB4 hB5 hbx HBB HCB
            go_wp2_with (fail)
            go_roundw
            case rel => first | exact ⟨j + 1, by go_num, by omega, HN6⟩ | ((repeat apply Exists.intro); refine ⟨?_, rfl⟩; exact ⟨j + 1, by go_num, by omega, HN6⟩)
            case measure => first | (simp [intOf]; done) | (simp [intOf]; omega)
          · rw [if_neg hmm, List.append_nil] at HPA
            have hmm2 : ¬ (mi : Int) ≤ (m : Int) := by omega
            have HJ2 : Hid (NwInv w v A1 A2 (some ⟨rb, ro, none⟩) s1 s2 s3 p m (pA v m (j + 1)) (wr.alloc (.cells #[I mi, I pl, I pe] 49))) := Lib.hid (by rw [HPA.out]; exact HJ.out.later (below1 _ _))
            clear HJ HPA HAR HRM HS0
            go_wp2
            go_roundw
            case rel => exact ⟨j + 1, by go_num, by omega, HJ2⟩
            case measure => simp [intOf]; omega
        · obtain rfl : j = v.ar.length := by omega
          obtain ⟨rb, ro, hA1, hrc⟩ := HRM.out _ HJ.out.bl p hp
          subst hA1
          obtain ⟨r, hr⟩ : ∃ r, v.room p = r := ⟨_, rfl⟩
          have HNP := Lib.hid (netP_eq v p m)
          unfold lastA at HNP
          rw [hr] at HNP
          have HADD : Hid (∀ (W' : World), Below wr.heap.size wr W' → ∀ (tb c : Nat), W'.cell? ⟨tb, 0, none⟩ = some (I 0) → W'.cell? ⟨tb, 1, none⟩ = some (I 0) → W'.cell? ⟨tb, 2, none⟩ = some (I 2) → Calls Tryd.prog 53 #[.map (some (w.heap.size + 1 + 1)), kn p m 0, I r, .slice (some ⟨tb, 0, none⟩) 1 c] W' fun e w' => (∃ u, e = .returned u) ∧ NwInv w v (some ⟨rb, ro, none⟩) A2 A3 s1 s2 s3 p m (netP v p m) w') := Lib.hid fun W' hW' tb c c0 c1 c2 => by
            have w3 := nd_src (v := v) (m := m) (p := p) (t := m) hp (by omega)
            have w2 := pA_len HV.out m v.ar.length
            exact HJ.out.add HV.out hm (x := nd v.n p m) (y := snkN v m) (by unfold snkN; omega) (by omega) r (by omega) _ _ _ (ktv_at v (m := m) (t := m) hp (by omega)) _ _ _ (ktv_snk v.n (srcN v m)) _ HNP.out W' hW' tb c c0 c1 c2
          have HCB : Hid (∀ W, Below wr.heap.size wr W → (W.cell? ⟨w.heap.size, 0, none⟩ = some (.slice (some ⟨rb, ro, none⟩) v.rm.length s1) ∧ W.cell? ⟨w.heap.size + 1, 0, none⟩ = some (I p) ∧ W.cell? ⟨w.heap.size + 1, 1, none⟩ = some (I m) ∧ W.cell? ⟨rb, ro + p, none⟩ = some (I r)) ∧ W.cell? ⟨1, 0, none⟩ = some (I 0) ∧ W.cell? ⟨1, 1, none⟩ = some (I 0) ∧ W.cell? ⟨1, 2, none⟩ = some (I 2)) := Lib.hid fun W h => by
            have h1 := HJ.out.later h
            obtain ⟨rb', ro', h4, h5⟩ := HRM.out _ h1.bl p hp
            cases h4
            rw [hr] at h5
            exact ⟨⟨h1.get.1.1, h1.get.2.1, h1.get.2.2, h5⟩, (HGW.out _ h1.bl).t⟩
          clear HJ HNP HAR HRM HS0 hr
          go_wp2_with (fail)
          refine (wpIn_wide (n := 9)).1 ?_
          refine wpIn_region_plan (Plan.ons [0, 1, 2, 3, 4, 5, 6, 7, 8, 9, 10, 11] .fin) [0, 1, 2, 3, 4, 5, 6, 7, 8, 9] (fun W => Below wr.heap.size wr W) [11] rfl (by kernel_rfl) (by kernel_rfl) (fun _ d _ _ _ h => by cases d <;> exact h) (Below.refl _ _).drew ?_
          (refine ordQ_held (.map (some (w.heap.size + 1 + 1))) rfl rfl rfl rfl (fun W' hC' => ?_) (fun K hK => ?_); (focus (obtain ⟨⟨g0, g1, g2, g6⟩, g3, g4, g5⟩ := HCB.out _ hC'; go_simp; try exact ⟨rfl, rfl⟩)); go_simp; refine hK _ ?_; clear hK K)
          (refine ordQ_held (sd p m) rfl rfl rfl rfl (fun W' hC' => ?_) (fun K hK => ?_); (focus (obtain ⟨⟨g0, g1, g2, g6⟩, g3, g4, g5⟩ := HCB.out _ hC'; go_simp; try exact ⟨rfl, rfl⟩)); go_simp; refine hK _ ?_; clear hK K)
          (refine ordQ_held (kn p m 0) rfl rfl rfl rfl (fun W' hC' => ?_) (fun K hK => ?_); (focus (obtain ⟨⟨g0, g1, g2, g6⟩, g3, g4, g5⟩ := HCB.out _ hC'; go_simp; try exact ⟨rfl, rfl⟩)); go_simp; refine hK _ ?_; clear hK K)
          (refine ordQ_held (.pointer (some ⟨w.heap.size, 0, none⟩)) rfl rfl rfl rfl (fun W' hC' => ?_) (fun K hK => ?_); (focus (obtain ⟨⟨g0, g1, g2, g6⟩, g3, g4, g5⟩ := HCB.out _ hC'; go_simp; try exact ⟨rfl, rfl⟩)); go_simp; refine hK _ ?_; clear hK K)
          (refine ordQ_held (.slice (some ⟨rb, ro, none⟩) v.rm.length s1) rfl rfl rfl rfl (fun W' hC' => ?_) (fun K hK => ?_); (focus (obtain ⟨⟨g0, g1, g2, g6⟩, g3, g4, g5⟩ := HCB.out _ hC'; go_simp; try exact ⟨rfl, rfl⟩)); go_simp; refine hK _ ?_; clear hK K)
          (refine ordQ_held (.pointer (some ⟨w.heap.size + 1, 0, none⟩)) rfl rfl rfl rfl (fun W' hC' => ?_) (fun K hK => ?_); (focus (obtain ⟨⟨g0, g1, g2, g6⟩, g3, g4, g5⟩ := HCB.out _ hC'; go_simp; try exact ⟨rfl, rfl⟩)); go_simp; refine hK _ ?_; clear hK K)
          (refine ordQ_held (I p) rfl rfl rfl rfl (fun W' hC' => ?_) (fun K hK => ?_); (focus (obtain ⟨⟨g0, g1, g2, g6⟩, g3, g4, g5⟩ := HCB.out _ hC'; go_simp; try exact ⟨rfl, rfl⟩)); go_simp; refine hK _ ?_; clear hK K)
          (refine ordQ_held (.pointer (some ⟨rb, ro + p, none⟩)) rfl rfl rfl rfl (fun W' hC' => ?_) (fun K hK => ?_); (focus (obtain ⟨⟨g0, g1, g2, g6⟩, g3, g4, g5⟩ := HCB.out _ hC'; go_simp; try exact ⟨rfl, rfl⟩)); go_simp; refine hK _ ?_; clear hK K)
          (refine ordQ_held (I r) rfl rfl rfl rfl (fun W' hC' => ?_) (fun K hK => ?_); (focus (obtain ⟨⟨g0, g1, g2, g6⟩, g3, g4, g5⟩ := HCB.out _ hC'; go_simp; try exact ⟨rfl, rfl⟩)); go_simp; refine hK _ ?_; clear hK K)
          (refine ordQ_held (kn 0 0 2) rfl rfl rfl rfl (fun W' hC' => ?_) (fun K hK => ?_); (focus (obtain ⟨⟨g0, g1, g2, g6⟩, g3, g4, g5⟩ := HCB.out _ hC'; go_simp; try exact ⟨rfl, rfl⟩)); go_simp; refine hK _ ?_; clear hK K)
          refine ordQ_hv rfl rfl rfl (fun K hK => ?_)
          gi_wp2
          have hB5 : Below wr.heap.size wr (wr.drew.alloc (.cells #[I 0, I 0, I 2] 89)) := by (repeat' (first | assumption | exact Below.refl _ _ | refine Below.drew ?_ | refine below_drewN ?_ _ | refine Below.setCell ?_ (by first | omega | (simp; done) | (simp; omega)) _ | refine Below.alloc ?_ (by first | omega | (simp; done) | (simp; omega)) _ | refine Below.trans ?_ (Below.mono (by assumption) (by first | omega | (simp; done) | (simp; omega)))))
          have hbx := Box.new wr.drew [I 0, I 0, I 2] 89
          refine hK _ _ (fun _ => hB5) ?_
          clear hK K
          refine ordQ_hv rfl rfl rfl (fun K hK => ?_)
          gi_wp2_with (first | (refine And.intro trivial ?_; gi_at_call 53; refine (callsIn_wide.2 (HADD.out _ hB5 wr.heap.size 1 (hbx.at_ 0 _ rfl).1 (hbx.at_ 1 _ rfl).1 (hbx.at_ 2 _ rfl).1)).mono ?_; rintro e w6 ⟨⟨u5, rfl⟩, hN6⟩) | fail)
          refine hK _ _ (fun h => by cases h) ?_
          clear hK K
          refine ordQ_fin ?_
          have HN6 := Lib.hid hN6
          clear hN6 HADD hB5 hbx HCB
          go_wp2_with (fail)
          go_ret
          exact ⟨_, rfl, HN6.out.bl, HN6.out.nt⟩
end Go.Proofs.YtomfnldlnoiloaaDoor
