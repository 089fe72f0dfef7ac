/- See, of the document. Printed by mkD8.py. -/
import Derived.Test.YtomfnldlnoiloaaDoorD7
import Derived.Test.YtomfnldlnoiloaaDoorT5
namespace Go.Proofs.YtomfnldlnoiloaaDoor
set_option linter.unusedVariables false
set_option linter.unusedSimpArgs false
open Go Go.RowKit Go.Maps

theorem outL_new (rows : Nat → Nat) {nr n : Nat} (h : nr < 61) : (outL rows nr n)[nr]? = some (.slice none 0 0) := by
  unfold outL
  rw [List.getElem?_map, List.getElem?_range h]
  simp
set_option maxRecDepth 100000 in
set_option maxHeartbeats 16000000 in
theorem see15 (v : Vis) (h64 : Vis64 v) (A1 A2 A3 AL : Option Addr) (q1 q2 q3 ql : Nat) (l : List Mv) (p m : Int) (w : World) (hI : VisAt w w.heap.size v A1 A2 A3) (hL : Threes w w.heap.size AL l) :
    Calls Tryd.prog 15 #[visV v A1 A2 A3 q1 q2 q3, .slice AL l.length ql, I p, I m] w (SeeEnds w v l p m) := by
  obtain ⟨w2, hw2⟩ : ∃ w2, w.alloc (.cells #[.slice A1 v.rm.length q1, .slice A2 v.tr.length q2, .slice A3 v.ar.length q3] 26) = w2 := ⟨_, rfl⟩
  have hz2 : w2.heap.size = w.heap.size + 1 := by rw [← hw2]; simp
  have hB2 : Below w.heap.size w w2 := by rw [← hw2]; exact below1 _ _
  have b1 : Box w2 w.heap.size [.slice A1 v.rm.length q1, .slice A2 v.tr.length q2, .slice A3 v.ar.length q3] := by rw [← hw2]; exact Box.new w [.slice A1 v.rm.length q1, .slice A2 v.tr.length q2, .slice A3 v.ar.length q3] 26
  have H21 := Lib.hid (errors21 v h64 A1 A2 A3 q1 q2 q3 p m w2 ((hI.below hB2).more hB2.size))
  have HBX : Hid (∀ W, Below w2.heap.size w2 W → (W.cell? ⟨w.heap.size, 0, none⟩ = some (.slice A1 v.rm.length q1) ∧ W.cell? ⟨w.heap.size, 1, none⟩ = some (.slice A2 v.tr.length q2) ∧ W.cell? ⟨w.heap.size, 2, none⟩ = some (.slice A3 v.ar.length q3)) ∧ Box W w.heap.size [.slice A1 v.rm.length q1, .slice A2 v.tr.length q2, .slice A3 v.ar.length q3] ∧ Below w.heap.size w W) := Lib.hid fun W h =>
    ⟨⟨((b1.call h).at_ 0 _ rfl).1, ((b1.call h).at_ 1 _ rfl).1, ((b1.call h).at_ 2 _ rfl).1⟩, b1.call h, hB2.trans (h.mono hB2.size)⟩
  obtain ⟨⟨x0, x1, x2⟩, _⟩ := HBX.out w2 (Below.refl _ _)
  have HI := Lib.hid hI
  have HL := Lib.hid hL
  clear b1 hB2 hI hL h64
  by_cases he : errN v p m = 0
  · obtain ⟨hv, hp, hm0, hm60⟩ := err_zero he
    have HV := Lib.hid hv
    have hn := hv.n
    rw [he] at H21
    by_cases hl : l.length ≤ 256
    · obtain ⟨pn, rfl⟩ : ∃ n : Nat, p = n := ⟨p.toNat, by omega⟩
      obtain ⟨mn, rfl⟩ : ∃ n : Nat, m = n := ⟨m.toNat, by omega⟩
      have hpn : pn < v.n := by omega
      have hn8 : v.rm.length ≤ 8 := hn.2
      have hlb : ¬ (256 : Int) < (l.length : Int) := by omega
      have HE : Hid (∀ k : Nat, seeF v l = (k, 0) → ∀ W, Below w.heap.size w W → SeeEnds w v l pn mn (.returned (.tuple #[I (pvF v l pn mn 61 k), I k, I 0])) W) := Lib.hid fun k hs W h => by
        unfold SeeEnds; rw [seeV_ok he hl hs (by omega)]; exact ⟨rfl, h⟩
      have HF : Hid (∀ (k : Nat) (c : Int), seeF v l = (k, c) → c ≠ 0 → ∀ W, Below w.heap.size w W → SeeEnds w v l pn mn (.returned (.tuple #[I 0, I k, I c])) W) := Lib.hid fun k c hs hc W h => by
        unfold SeeEnds; rw [seeV_fault he hl hs hc]; exact ⟨rfl, h⟩
      have htl := hv.tl
      have hmsR := fun W => make22z v.rm.length (by omega) W
      have hmsT := fun W => make22z v.tr.length (by omega) W
      have hms74 := make74
      generalize SeeEnds w v l pn mn = R at *
      clear he hp hm0 hn hv
      go_enter Tryd.func15, Tryd.ntmps15
      go_upto_if 36 with (first
        | (go_at_call 21; refine H21.out.mono ?_; rintro e w4 ⟨rfl, hb4⟩; have HB4 := Lib.hid hb4; clear x0 x1 x2; obtain ⟨⟨x0, x1, x2⟩, _⟩ := HBX.out w4 hb4; clear hb4)
        | fail)
      have HD0 : Hid (DocW w ((w4.alloc (.cells (zI v.rm.length) 3)).alloc (.cells z61 22)) v A1 A2 A3 q1 q2 q3 w4.heap.size (w4.heap.size + 1) (fun _ => 0) 0 (fun q => thM v (l.take 0) q 0) (fun j kk => outM (l.take 0) j kk)) := Lib.hid (by
        obtain ⟨_, c2, c3⟩ := HBX.out w4 HB4.out
        have z4 := HB4.out.size
        have t1 : Box ((w4.alloc (.cells (zI v.rm.length) 3)).alloc (.cells z61 22)) w4.heap.size (List.replicate v.rm.length (I 0)) := (Box.new w4 (List.replicate v.rm.length (I 0)) 3).alloc (.cells z61 22)
        have t2 : Box ((w4.alloc (.cells (zI v.rm.length) 3)).alloc (.cells z61 22)) _ (List.replicate 61 (Value.slice none 0 0)) := Box.new (w4.alloc (.cells (zI v.rm.length) 3)) (List.replicate 61 (Value.slice none 0 0)) 22
        rw [World.size_alloc] at t2
        have e : (thL v.rm.length fun q => thM v (l.take 0) q 0).map I = List.replicate v.rm.length (I 0) := by simp [thL, thM, List.map_const']
        refine ⟨(c3.alloc c3.size _).alloc (by simp; have := c3.size; omega) _, (c2.alloc _).alloc _, by rw [e]; exact t1, by rw [outL_zero]; exact t2, fun j hj => by omega, ⟨by omega, by omega, by omega⟩, fun j hj => by omega⟩)
      clear x0 x1 x2 H21 HBX
      have hz4 := HB4.out.size
      obtain ⟨tb, htb⟩ : ∃ z, w4.heap.size = z := ⟨_, rfl⟩
      simp only [htb] at HD0 ⊢
      obtain ⟨wq, hwq⟩ : ∃ z, ((w4.alloc (.cells (zI v.rm.length) 3)).alloc (.cells z61 22)) = z := ⟨_, rfl⟩
      simp only [hwq] at HD0 ⊢
      clear hwq htb HB4 hz4
      go_loopw [14, 15, 16] (fun i14 i15 i16 wr => ∃ (k now : Nat) (rows : Nat → Nat) (pv : Int), i14 = I k ∧ i15 = I pv ∧ i16 = I now ∧ now ≤ 61 ∧ Hid (pv = pvF v l pn mn now k) ∧ Hid (SeeP v l now k now) ∧ Hid (DocW w wr v A1 A2 A3 q1 q2 q3 tb (tb + 1) rows now (fun q => thM v (l.take k) q now) (fun j kk => outM (l.take k) j kk))) (fun _ _ i _ => 61 - (intOf i).toNat)
      case atStart => exact ⟨0, 0, fun _ => 0, 0, rfl, rfl, rfl, by omega, Lib.hid rfl, Lib.hid (SeeP.start v l), HD0⟩
      case round =>
        obtain ⟨k, now, rows, pv, rfl, rfl, rfl, hnow, HPV, HP, HD⟩ := hrel
        clear HD0
        have htbz := HD.out.thx.1
        have hobz := HD.out.obx.1
        by_cases hlt : now < 61
        · have n60 : (now : Int) ≤ 60 := by omega
          have now0 : (0 : Int) ≤ (now : Int) := by omega
          have now61 : (now : Int) < 61 := by omega
          have hwk : IntKind.i64.wrap ((now : Int) + 1) = (now : Int) + 1 := IntWalk.i64_in _ (by omega)
          obtain ⟨x1, _⟩ := HD.out.bx.at_ 1 _ rfl
          obtain ⟨c9, c9f⟩ := HD.out.obx.at_ now _ (outL_new rows hlt)
          have HM := Lib.hid HP.out.made
          obtain ⟨hP1, hth1⟩ := HP.out.begun HV.out
          have HP1 := Lib.hid hP1
          have HT1 := Lib.hid hth1
          have HTOP := Lib.hid (HP.out.top HV.out hl)
          have HDn : Hid (DocW w ((wr.setCell ⟨tb + 1, now, none⟩ (.slice (some ⟨wr.heap.size, 0, none⟩) v.tr.length v.tr.length)).alloc (.cells (zI v.tr.length) 3)) v A1 A2 A3 q1 q2 q3 tb (tb + 1) (fun j => if j = now then wr.heap.size else rows j) (now + 1) (fun q => if q < 0 then min (thM v (l.take k) q now) (v.room q) + arrive v q now else thM v (l.take k) q now) (fun j kk => outM (l.take k) j kk)) := Lib.hid ((HD.out.rowMore hlt (outM (l.take k) now) (fun kk _ => outM_new HM.out (Nat.le_refl now) kk)).congr (fun q _ => (if_neg (Nat.not_lt_zero q)).symm) (fun j kk _ _ => by
            by_cases e : j = now
            · subst e; rw [if_pos rfl]
            · rw [if_neg e]))
          obtain ⟨rw1, hrw1⟩ : ∃ z, (fun j => if j = now then wr.heap.size else rows j) = z := ⟨_, rfl⟩
          have HRWN : Hid (rw1 now = wr.heap.size) := Lib.hid (by rw [← hrw1]; simp)
          rw [hrw1] at HDn
          clear hrw1 hP1 hth1 HD
          go_upto_if 47 with (fail)
          clear hmsT c9 c9f x1
          rw [← HRWN.out] at HDn ⊢
          clear HRWN
          obtain ⟨w0, hw0⟩ : ∃ z, ((wr.setCell ⟨tb + 1, now, none⟩ (.slice (some ⟨rw1 now, 0, none⟩) v.tr.length v.tr.length)).alloc (.cells (zI v.tr.length) 3)) = z := ⟨_, rfl⟩
          rw [hw0] at HDn ⊢
          clear hw0 htbz hobz
          go_loopw [17] (fun i17 wr => ∃ j : Nat, i17 = I j ∧ j ≤ v.rm.length ∧ Hid (DocW w wr v A1 A2 A3 q1 q2 q3 tb (tb + 1) rw1 (now + 1) (fun q => if q < j then min (thM v (l.take k) q now) (v.room q) + arrive v q now else thM v (l.take k) q now) (fun j kk => outM (l.take k) j kk))) (fun i _ => v.rm.length - (intOf i).toNat)
          case atStart => exact ⟨0, rfl, by omega, HDn⟩
          case round =>
            obtain ⟨j, rfl, hj, HDj⟩ := hrel
            clear HDn
            have htbz := HDj.out.thx.1
            by_cases hjl : j < v.rm.length
            · as_aux_lemma =>
                have j0 : (0 : Int) ≤ (j : Int) := by omega
                have j1 : (j : Int) < (v.rm.length : Int) := by omega
                have hwj : IntKind.i64.wrap ((j : Int) + 1) = (j : Int) + 1 := IntWalk.i64_in _ (by omega)
                obtain ⟨rb, ro, hA1, hrb, hrc⟩ := (HI.out.below HDj.out.bl).rm (by omega)
                subst hA1
                have rc := hrc j hjl
                have hro : v.rm[j] = v.room j := by simp [Vis.room, List.getD_eq_getElem?_getD, hjl]
                rw [hro] at rc
                have tc := (HDj.out.thx.at_ j _ (thL_at _ hjl)).1
                rw [if_neg (Nat.lt_irrefl j)] at tc
                have hb1 := HTOP.out.1 j hjl
                have hb2 := HV.out.room j hjl
                have hb3 := arrive_top HV.out j now
                have H38 : Hid (∀ W, Below wr.heap.size wr W → Calls Tryd.prog 38 #[visV v (some ⟨rb, ro, none⟩) A2 A3 q1 q2 q3, I j, I now] W fun e w' => e = .returned (I (arrive v j now)) ∧ Below W.heap.size W w') := Lib.hid fun W h => arrive38 v HV.out (some ⟨rb, ro, none⟩) A2 A3 q1 q2 q3 j now W ((HI.out.below (HDj.out.bl.trans (h.mono HDj.out.bl.size))).more (by have := h.size; have := HDj.out.bl.size; omega))
                have HFIN : Hid (∀ W, Below wr.heap.size wr W → DocW w (W.setCell ⟨tb, j, none⟩ (I (min (thM v (l.take k) j now) (v.room j) + arrive v j now))) v (some ⟨rb, ro, none⟩) A2 A3 q1 q2 q3 tb (tb + 1) rw1 (now + 1) (fun q => if q < j + 1 then min (thM v (l.take k) q now) (v.room q) + arrive v q now else thM v (l.take k) q now) (fun j kk => outM (l.take k) j kk)) := Lib.hid fun W h => ((HDj.out.below h).setTh j _).congr (fun q _ => by
                  by_cases e : q = j
                  · subst e; rw [if_pos rfl, if_pos (by omega)]
                  · rw [if_neg e]
                    by_cases e2 : q < j
                    · rw [if_pos e2, if_pos (by omega)]
                    · rw [if_neg e2, if_neg (by omega)]) (fun _ _ _ _ => rfl)
                have hbw := HDj.out.bl.size
                have HC15 : Hid (∀ W, Below wr.heap.size wr W → (W.cell? ⟨w.heap.size, 0, none⟩ = some (.slice (some ⟨rb, ro, none⟩) v.rm.length q1) ∧ W.cell? ⟨w.heap.size, 1, none⟩ = some (.slice A2 v.tr.length q2) ∧ W.cell? ⟨w.heap.size, 2, none⟩ = some (.slice A3 v.ar.length q3)) ∧ W.cell? ⟨tb, j, none⟩ = some (I (thM v (l.take k) j now)) ∧ W.cell? ⟨rb, ro + j, none⟩ = some (I (v.room j))) := Lib.hid fun W h => by
                  have hx := HDj.out.bx.call h
                  exact ⟨⟨(hx.at_ 0 _ rfl).1, (hx.at_ 1 _ rfl).1, (hx.at_ 2 _ rfl).1⟩, (h.cell (p := ⟨tb, _, none⟩) htbz).trans tc, (h.cell (p := ⟨rb, _, none⟩) (by show rb < _; omega)).trans rc⟩
                have HTC : Hid (∀ W, Below wr.heap.size wr W → W.cell? ⟨tb, j, none⟩ = some (I (thM v (l.take k) j now)) ∧ W.frozen? ⟨tb, j, none⟩ = false) := Lib.hid fun W h => by
                  have := ((HDj.out.thx.call h).at_ j _ (thL_at _ hjl))
                  rw [if_neg (Nat.lt_irrefl j)] at this
                  exact this
                clear rc hrc hro tc
                obtain ⟨ta, hta⟩ : ∃ z, thM v (l.take k) j now = z := ⟨_, rfl⟩
                obtain ⟨ra, hra⟩ : ∃ z, v.room j = z := ⟨_, rfl⟩
                obtain ⟨aa, haa⟩ : ∃ z, arrive v j now = z := ⟨_, rfl⟩
                simp only [hta, hra, haa] at hb1 hb2 hb3 H38 HFIN HC15 HTC
                have hwS : IntKind.i64.wrap (min ta ra + aa) = min ta ra + aa := IntWalk.i64_in _ (by omega)
                clear hta hra haa
                go_wp2_with (fail)
                refine (wpIn_wide (n := 9)).1 ?_
                refine wpIn_region_plan (Plan.ons [0, 1, 2, 3, 4, 5, 6, 7, 8, 9, 10, 11, 12, 13, 14, 15, 16, 17, 18] .fin) [0, 1, 2, 3, 4, 5, 6, 7, 8, 9, 10, 11, 12, 13, 14] (fun W => Below wr.heap.size wr W) [18] rfl (by kernel_rfl) (by kernel_rfl) (fun _ d _ _ _ h => by cases d <;> exact h) (Below.refl _ _).drew ?_
                (refine ordQ_held (.slice (some ⟨tb, 0, none⟩) v.rm.length v.rm.length) rfl rfl rfl rfl (fun W' hC' => ?_) (fun K hK => ?_); (focus (obtain ⟨⟨g0, g1, g2⟩, g3, g4⟩ := HC15.out _ hC'; go_simp; try exact ⟨rfl, rfl⟩)); go_simp; refine hK _ ?_; clear hK K)
                (refine ordQ_held (I j) rfl rfl rfl rfl (fun W' hC' => ?_) (fun K hK => ?_); (focus (obtain ⟨⟨g0, g1, g2⟩, g3, g4⟩ := HC15.out _ hC'; go_simp; try exact ⟨rfl, rfl⟩)); go_simp; refine hK _ ?_; clear hK K)
                (refine ordQ_held (.slice (some ⟨tb, 0, none⟩) v.rm.length v.rm.length) rfl rfl rfl rfl (fun W' hC' => ?_) (fun K hK => ?_); (focus (obtain ⟨⟨g0, g1, g2⟩, g3, g4⟩ := HC15.out _ hC'; go_simp; try exact ⟨rfl, rfl⟩)); go_simp; refine hK _ ?_; clear hK K)
                (refine ordQ_held (I j) rfl rfl rfl rfl (fun W' hC' => ?_) (fun K hK => ?_); (focus (obtain ⟨⟨g0, g1, g2⟩, g3, g4⟩ := HC15.out _ hC'; go_simp; try exact ⟨rfl, rfl⟩)); go_simp; refine hK _ ?_; clear hK K)
                (refine ordQ_held (.pointer (some ⟨tb, j, none⟩)) rfl rfl rfl rfl (fun W' hC' => ?_) (fun K hK => ?_); (focus (obtain ⟨⟨g0, g1, g2⟩, g3, g4⟩ := HC15.out _ hC'; go_simp; try exact ⟨rfl, rfl⟩)); go_simp; refine hK _ ?_; clear hK K)
                (refine ordQ_held (I ta) rfl rfl rfl rfl (fun W' hC' => ?_) (fun K hK => ?_); (focus (obtain ⟨⟨g0, g1, g2⟩, g3, g4⟩ := HC15.out _ hC'; go_simp; try exact ⟨rfl, rfl⟩)); go_simp; refine hK _ ?_; clear hK K)
                (refine ordQ_held (.pointer (some ⟨w.heap.size, 0, none⟩)) rfl rfl rfl rfl (fun W' hC' => ?_) (fun K hK => ?_); (focus (obtain ⟨⟨g0, g1, g2⟩, g3, g4⟩ := HC15.out _ hC'; go_simp; try exact ⟨rfl, rfl⟩)); go_simp; refine hK _ ?_; clear hK K)
                (refine ordQ_held (.slice (some ⟨rb, ro, none⟩) v.rm.length q1) rfl rfl rfl rfl (fun W' hC' => ?_) (fun K hK => ?_); (focus (obtain ⟨⟨g0, g1, g2⟩, g3, g4⟩ := HC15.out _ hC'; go_simp; try exact ⟨rfl, rfl⟩)); go_simp; refine hK _ ?_; clear hK K)
                (refine ordQ_held (I j) rfl rfl rfl rfl (fun W' hC' => ?_) (fun K hK => ?_); (focus (obtain ⟨⟨g0, g1, g2⟩, g3, g4⟩ := HC15.out _ hC'; go_simp; try exact ⟨rfl, rfl⟩)); go_simp; refine hK _ ?_; clear hK K)
                (refine ordQ_held (.pointer (some ⟨rb, ro + j, none⟩)) rfl rfl rfl rfl (fun W' hC' => ?_) (fun K hK => ?_); (focus (obtain ⟨⟨g0, g1, g2⟩, g3, g4⟩ := HC15.out _ hC'; go_simp; try exact ⟨rfl, rfl⟩)); go_simp; refine hK _ ?_; clear hK K)
                (refine ordQ_held (I ra) rfl rfl rfl rfl (fun W' hC' => ?_) (fun K hK => ?_); (focus (obtain ⟨⟨g0, g1, g2⟩, g3, g4⟩ := HC15.out _ hC'; go_simp; try exact ⟨rfl, rfl⟩)); go_simp; refine hK _ ?_; clear hK K)
                (refine ordQ_held (I (min ta ra)) rfl rfl rfl rfl (fun W' hC' => ?_) (fun K hK => ?_); (focus (obtain ⟨⟨g0, g1, g2⟩, g3, g4⟩ := HC15.out _ hC'; go_simp; try exact ⟨rfl, rfl⟩)); go_simp; refine hK _ ?_; clear hK K)
                (refine ordQ_held (visV v (some ⟨rb, ro, none⟩) A2 A3 q1 q2 q3) rfl rfl rfl rfl (fun W' hC' => ?_) (fun K hK => ?_); (focus (obtain ⟨⟨g0, g1, g2⟩, g3, g4⟩ := HC15.out _ hC'; go_simp; try exact ⟨rfl, rfl⟩)); go_simp; refine hK _ ?_; clear hK K)
                (refine ordQ_held (I j) rfl rfl rfl rfl (fun W' hC' => ?_) (fun K hK => ?_); (focus (obtain ⟨⟨g0, g1, g2⟩, g3, g4⟩ := HC15.out _ hC'; go_simp; try exact ⟨rfl, rfl⟩)); go_simp; refine hK _ ?_; clear hK K)
                (refine ordQ_held (I now) rfl rfl rfl rfl (fun W' hC' => ?_) (fun K hK => ?_); (focus (obtain ⟨⟨g0, g1, g2⟩, g3, g4⟩ := HC15.out _ hC'; go_simp; try exact ⟨rfl, rfl⟩)); go_simp; refine hK _ ?_; clear hK K)
                refine ordQ_hv rfl rfl rfl (fun K hK => ?_)
                gi_wp2_with (first | (refine And.intro trivial ?_; gi_at_call 38; refine (callsIn_wide.2 (H38.out _ (by first | exact (Below.refl _ _).drew | exact (Below.refl _ _)))).mono ?_; rintro e w5 ⟨rfl, hB5⟩) | fail)
                have hB5' : Below wr.heap.size wr w5 := (Below.refl wr.heap.size wr).drew.trans (hB5.mono (Nat.le_refl _))
                refine hK _ _ (fun _ => hB5') ?_
                clear hK K
                (refine ordQ_li rfl rfl rfl (fun K hK => ?_); go_simp; refine hK _ ?_; clear hK K)
                (refine ordQ_li rfl rfl rfl (fun K hK => ?_); go_simp; refine hK _ ?_; clear hK K)
                obtain ⟨t5, t5f⟩ := HTC.out w5 hB5'
                refine ordQ_hv rfl rfl rfl (fun K hK => ?_)
                gi_wp2
                refine hK _ _ (fun h => by cases h) ?_
                clear hK K
                refine ordQ_fin ?_
                have HDZ := Lib.hid (HFIN.out w5 hB5')
                clear hB5 hB5' t5 t5f HFIN HTC HC15 H38
                go_wp2_with (fail)
                go_roundw
                case rel => exact ⟨j + 1, by go_num, by omega, HDZ⟩
                case measure => first | (simp [intOf]; done) | (simp [intOf]; omega)
            · have j1 : ¬ (j : Int) < (v.rm.length : Int) := by omega
              obtain rfl : j = v.rm.length := by omega
              have HDs : Hid (DocW w wr v A1 A2 A3 q1 q2 q3 tb (tb + 1) rw1 (now + 1) (fun q => min (thM v (l.take k) q now) (v.room q) + arrive v q now + infl v (l.take k) q now 0) (fun j kk => outM (l.take k) j kk)) := Lib.hid (HDj.out.congr (fun q hq => by rw [if_pos hq]; simp [infl, sumK]) (fun _ _ _ _ => rfl))
              clear HDj
              obtain ⟨wA, hwA⟩ : ∃ z, z = wr := ⟨_, rfl⟩
              subst hwA
              go_wp2_with (fail)
              go_loopw [18] (fun i18 wr => ∃ j : Nat, i18 = I j ∧ j ≤ v.tr.length ∧ Hid (DocW w wr v A1 A2 A3 q1 q2 q3 tb (tb + 1) rw1 (now + 1) (fun q => min (thM v (l.take k) q now) (v.room q) + arrive v q now + infl v (l.take k) q now j) (fun j kk => outM (l.take k) j kk))) (fun i _ => v.tr.length - (intOf i).toNat)
              case atStart => exact ⟨0, rfl, by omega, HDs⟩
              case round =>
                obtain ⟨j, rfl, hj, HDj⟩ := hrel
                clear HDs
                have htbz := HDj.out.thx.1
                obtain ⟨x0, _⟩ := HDj.out.bx.at_ 0 _ rfl
                obtain ⟨x1, _⟩ := HDj.out.bx.at_ 1 _ rfl
                by_cases hjl : j < v.tr.length
                · as_aux_lemma =>
                    have j0 : (0 : Int) ≤ (j : Int) := by omega
                    have j1 : (j : Int) < (v.tr.length : Int) := by omega
                    have hwj : IntKind.i64.wrap ((j : Int) + 1) = (j : Int) + 1 := IntWalk.i64_in _ (by omega)
                    have hfo := far_ok HV.out hjl
                    obtain ⟨rb, ro, hA2, hrb, hrc⟩ := (HI.out.below HDj.out.bl).tr (by omega)
                    subst hA2
                    obtain ⟨r0, r1, r2, r3⟩ := hrc j hjl
                    rw [← v.far_at hjl] at r0 r1 r2 r3
                    unfold Vis.n at hfo
                    have e2 : (v.far j).2.1 = ((v.far j).2.1.toNat : Int) := by omega
                    have e3 : (v.far j).2.2.1 = ((v.far j).2.2.1.toNat : Int) := by omega
                    rw [e2] at r1
                    rw [e3] at r2
                    have hg : (v.far j).2.1.toNat < v.rm.length := by omega
                    have hm60 : (v.far j).2.2.1.toNat ≤ 60 ∧ 1 ≤ (v.far j).2.2.1.toNat := by omega
                    have HSU : Hid (∀ q, infl v (l.take k) q now (j + 1) = infl v (l.take k) q now j + (if (v.far j).2.1.toNat = q ∧ (v.far j).2.2.1.toNat ≤ now then outM (l.take k) (now - (v.far j).2.2.1.toNat) j else 0)) := Lib.hid fun q => rfl
                    have hk256 : (l.take k).length ≤ 256 := by rw [List.length_take]; omega
                    have hif := infl_le HM.out hk256 (v.far j).2.1.toNat now j
                    clear hfo e2 e3 hrc r0 r3
                    obtain ⟨g, hg2⟩ : ∃ z, (v.far j).2.1.toNat = z := ⟨_, rfl⟩
                    obtain ⟨mi, hmi⟩ : ∃ z, (v.far j).2.2.1.toNat = z := ⟨_, rfl⟩
                    simp only [hg2, hmi] at r1 r2 hg hm60 HSU hif
                    clear hg2 hmi
                    by_cases hge : mi ≤ now
                    · have hge2 : (mi : Int) ≤ (now : Int) := by omega
                      obtain ⟨d, hd⟩ : ∃ z, now - mi = z := ⟨_, rfl⟩
                      have hdn : d < now := by omega
                      have hsub : IntKind.i64.wrap ((now : Int) - (mi : Int)) = (d : Int) := by rw [← hd]; exact (IntWalk.i64_in _ (by omega)).trans (by omega)
                      obtain ⟨tc, tf⟩ := HDj.out.thx.at_ g _ (thL_at _ hg)
                      obtain ⟨oc, _⟩ := HDj.out.obx.at_ d _ (outL_at rw1 (n := v.tr.length) (show d < now + 1 by omega) (by omega))
                      obtain ⟨rc, _⟩ := (HDj.out.rw_ d (by omega)).at_ j _ (thL_at _ hjl)
                      have hb1 := HTOP.out.1 g hg
                      have hb2 := HV.out.room g hg
                      have hb3 := arrive_top HV.out g now
                      have hb4 := HTOP.out.2.2 d j
                      rw [hd] at HSU
                      have HFIN : Hid (∀ x : Int, x = min (thM v (l.take k) g now) (v.room g) + arrive v g now + infl v (l.take k) g now j + outM (l.take k) d j → DocW w (wr.setCell ⟨tb, g, none⟩ (I x)) v A1 (some ⟨rb, ro, none⟩) A3 q1 q2 q3 tb (tb + 1) rw1 (now + 1) (fun q => min (thM v (l.take k) q now) (v.room q) + arrive v q now + infl v (l.take k) q now (j + 1)) (fun j kk => outM (l.take k) j kk)) := Lib.hid fun x hx => (HDj.out.setTh g x).congr (fun q _ => by
                        rw [HSU.out]
                        by_cases e : q = g
                        · subst e; rw [if_pos rfl, if_pos ⟨rfl, hge⟩, hx]; omega
                        · rw [if_neg e, if_neg (fun h => e h.1.symm)]; omega) (fun _ _ _ _ => rfl)
                      obtain ⟨tv, htv⟩ : ∃ z, min (thM v (l.take k) g now) (v.room g) + arrive v g now + infl v (l.take k) g now j = z := ⟨_, rfl⟩
                      obtain ⟨ov, hov⟩ : ∃ z, outM (l.take k) d j = z := ⟨_, rfl⟩
                      have hwS : IntKind.i64.wrap (tv + ov) = tv + ov := IntWalk.i64_in _ (by omega)
                      rw [htv] at tc
                      rw [hov] at rc
                      simp only [htv, hov] at HFIN
                      have d0 : (0 : Int) ≤ (d : Int) := by omega
                      have d1 : (d : Int) < 61 := by omega
                      have g0 : (0 : Int) ≤ (g : Int) := by omega
                      have g1 : (g : Int) < (v.rm.length : Int) := by omega
                      have HDZ := Lib.hid (HFIN.out _ rfl)
                      clear HFIN HSU hd htv hov hif hb1 hb2 hb3 hb4 HDj
                      go_wp2_with (fail)
                      refine (wpIn_wide (n := 9)).1 ?_
                      refine wpIn_region_plan (Plan.ons [0, 1, 2, 3, 4, 5, 6, 7, 8, 9, 10, 11, 12, 13, 14, 15, 16, 17, 18, 19, 20, 21, 22, 23, 24, 25, 26, 27, 28, 29, 30, 31, 32] .fin) [] (fun _ => True) [] rfl (by kernel_rfl) (by kernel_rfl) (fun _ d _ _ _ h => by cases d <;> exact h) trivial ?_
                      (refine ordQ_li rfl rfl rfl (fun K hK => ?_); go_simp; refine hK _ ?_; clear hK K)
                      (refine ordQ_li rfl rfl rfl (fun K hK => ?_); go_simp; refine hK _ ?_; clear hK K)
                      (refine ordQ_li rfl rfl rfl (fun K hK => ?_); go_simp; refine hK _ ?_; clear hK K)
                      (refine ordQ_li rfl rfl rfl (fun K hK => ?_); go_simp; refine hK _ ?_; clear hK K)
                      (refine ordQ_li rfl rfl rfl (fun K hK => ?_); go_simp; refine hK _ ?_; clear hK K)
                      (refine ordQ_li rfl rfl rfl (fun K hK => ?_); go_simp; refine hK _ ?_; clear hK K)
                      (refine ordQ_li rfl rfl rfl (fun K hK => ?_); go_simp; refine hK _ ?_; clear hK K)
                      (refine ordQ_li rfl rfl rfl (fun K hK => ?_); go_simp; refine hK _ ?_; clear hK K)
                      (refine ordQ_li rfl rfl rfl (fun K hK => ?_); go_simp; refine hK _ ?_; clear hK K)
                      (refine ordQ_li rfl rfl rfl (fun K hK => ?_); go_simp; refine hK _ ?_; clear hK K)
                      (refine ordQ_li rfl rfl rfl (fun K hK => ?_); go_simp; refine hK _ ?_; clear hK K)
                      (refine ordQ_li rfl rfl rfl (fun K hK => ?_); go_simp; refine hK _ ?_; clear hK K)
                      (refine ordQ_li rfl rfl rfl (fun K hK => ?_); go_simp; refine hK _ ?_; clear hK K)
                      (refine ordQ_li rfl rfl rfl (fun K hK => ?_); go_simp; refine hK _ ?_; clear hK K)
                      (refine ordQ_li rfl rfl rfl (fun K hK => ?_); go_simp; refine hK _ ?_; clear hK K)
                      (refine ordQ_li rfl rfl rfl (fun K hK => ?_); go_simp; refine hK _ ?_; clear hK K)
                      (refine ordQ_li rfl rfl rfl (fun K hK => ?_); go_simp; refine hK _ ?_; clear hK K)
                      (refine ordQ_li rfl rfl rfl (fun K hK => ?_); go_simp; refine hK _ ?_; clear hK K)
                      (refine ordQ_li rfl rfl rfl (fun K hK => ?_); go_simp; refine hK _ ?_; clear hK K)
                      (refine ordQ_li rfl rfl rfl (fun K hK => ?_); go_simp; refine hK _ ?_; clear hK K)
                      (refine ordQ_li rfl rfl rfl (fun K hK => ?_); go_simp; refine hK _ ?_; clear hK K)
                      (refine ordQ_li rfl rfl rfl (fun K hK => ?_); go_simp; refine hK _ ?_; clear hK K)
                      (refine ordQ_li rfl rfl rfl (fun K hK => ?_); go_simp; refine hK _ ?_; clear hK K)
                      (refine ordQ_li rfl rfl rfl (fun K hK => ?_); go_simp; refine hK _ ?_; clear hK K)
                      (refine ordQ_li rfl rfl rfl (fun K hK => ?_); go_simp; refine hK _ ?_; clear hK K)
                      (refine ordQ_li rfl rfl rfl (fun K hK => ?_); go_simp; refine hK _ ?_; clear hK K)
                      (refine ordQ_li rfl rfl rfl (fun K hK => ?_); go_simp; refine hK _ ?_; clear hK K)
                      (refine ordQ_li rfl rfl rfl (fun K hK => ?_); go_simp; refine hK _ ?_; clear hK K)
                      (refine ordQ_li rfl rfl rfl (fun K hK => ?_); go_simp; refine hK _ ?_; clear hK K)
                      (refine ordQ_li rfl rfl rfl (fun K hK => ?_); go_simp; refine hK _ ?_; clear hK K)
                      (refine ordQ_li rfl rfl rfl (fun K hK => ?_); go_simp; refine hK _ ?_; clear hK K)
                      (refine ordQ_li rfl rfl rfl (fun K hK => ?_); go_simp; refine hK _ ?_; clear hK K)
                      refine ordQ_hv rfl rfl rfl (fun K hK => ?_)
                      gi_wp2
                      refine hK _ _ (fun _ => trivial) ?_
                      clear hK K
                      refine ordQ_fin ?_
                      go_wp2_with (fail)
                      go_roundw
                      case rel => exact ⟨j + 1, by go_num, by omega, Lib.hid (HDZ.out.drew)⟩
                      case measure => first | (simp [intOf]; done) | (simp [intOf]; omega)
                    · have hge2 : ¬ (mi : Int) ≤ (now : Int) := by omega
                      have HDZ : Hid (DocW w wr v A1 (some ⟨rb, ro, none⟩) A3 q1 q2 q3 tb (tb + 1) rw1 (now + 1) (fun q => min (thM v (l.take k) q now) (v.room q) + arrive v q now + infl v (l.take k) q now (j + 1)) (fun j kk => outM (l.take k) j kk)) := Lib.hid (HDj.out.congr (fun q _ => by rw [HSU.out, if_neg (fun h => hge h.2)]; omega) (fun _ _ _ _ => rfl))
                      clear HDj
                      go_wp2_with (fail)
                      go_roundw
                      case rel => exact ⟨j + 1, by go_num, by omega, HDZ⟩
                      case measure => first | (simp [intOf]; done) | (simp [intOf]; omega)
                · have j1 : ¬ (j : Int) < (v.tr.length : Int) := by omega
                  obtain rfl : j = v.tr.length := by omega
                  have HDb : Hid (DocW w wr v A1 A2 A3 q1 q2 q3 tb (tb + 1) rw1 (now + 1) (fun q => thM v (l.take k) q (now + 1)) (fun j kk => outM (l.take k) j kk)) := Lib.hid (HDj.out.congr (fun q _ => by rw [infl_all q now _ HM.out, HT1.out q]; unfold begM comA; omega) (fun _ _ _ _ => rfl))
                  clear HDj
                  obtain ⟨wB, hwB⟩ : ∃ z, z = wr := ⟨_, rfl⟩
                  subst hwB
                  go_upto_if 120 with (fail)
                  clear x0 x1
                  go_cut [15] from 120 to 130 (fun v15 wx => ∃ pv', v15 = I pv' ∧ Hid (pv' = pvF v l pn mn (now + 1) k) ∧ Hid (DocW w wx v A1 A2 A3 q1 q2 q3 tb (tb + 1) rw1 (now + 1) (fun q => thM v (l.take k) q (now + 1)) (fun j kk => outM (l.take k) j kk)))
                  case first =>
                    as_aux_lemma =>
                      by_cases e : now = mn
                      · have eb : ((now : Int) == (mn : Int)) = true := by simp [e]
                        have HPN : Hid (pvF v l pn mn (now + 1) k = min (thM v (l.take k) pn (now + 1)) (v.room pn)) := Lib.hid (by
                          unfold pvF; rw [if_pos (by omega), HT1.out, e])
                        have hpn' : pn < v.rm.length := hpn
                        obtain ⟨x0, _⟩ := HDb.out.bx.at_ 0 _ rfl
                        obtain ⟨tc, _⟩ := HDb.out.thx.at_ pn _ (thL_at _ hpn')
                        obtain ⟨rb, ro, hA1, hrb, hrc⟩ := (HI.out.below HDb.out.bl).rm (by omega)
                        subst hA1
                        have rc := hrc pn hpn'
                        have hro : v.rm[pn] = v.room pn := by simp [Vis.room, List.getD_eq_getElem?_getD, hpn']
                        rw [hro] at rc
                        have p0 : (0 : Int) ≤ (pn : Int) := by omega
                        have p1 : (pn : Int) < (v.rm.length : Int) := by omega
                        obtain ⟨ta, hta⟩ : ∃ z, thM v (l.take k) pn (now + 1) = z := ⟨_, rfl⟩
                        obtain ⟨ra, hra⟩ : ∃ z, v.room pn = z := ⟨_, rfl⟩
                        rw [hta] at tc HPN
                        rw [hra] at rc HPN
                        clear hta hra hro hrc e
                        go_wp2_with (fail)
                        refine wp_norm ?_
                        refine (wpIn_wide (n := 9)).1 ?_
                        refine wpIn_region_plan (Plan.ons [0, 1, 2, 3, 4, 5, 6, 7, 8, 9, 10] .fin) [] (fun _ => True) [] rfl (by kernel_rfl) (by kernel_rfl) (fun _ _ _ _ _ h => by cases h.1) trivial ?_
                        (refine ordQ_li rfl rfl rfl (fun K hK => ?_); go_simp; refine hK _ ?_; clear hK K)
                        (refine ordQ_li rfl rfl rfl (fun K hK => ?_); go_simp; refine hK _ ?_; clear hK K)
                        (refine ordQ_li rfl rfl rfl (fun K hK => ?_); go_simp; refine hK _ ?_; clear hK K)
                        (refine ordQ_li rfl rfl rfl (fun K hK => ?_); go_simp; refine hK _ ?_; clear hK K)
                        (refine ordQ_li rfl rfl rfl (fun K hK => ?_); go_simp; refine hK _ ?_; clear hK K)
                        (refine ordQ_li rfl rfl rfl (fun K hK => ?_); go_simp; refine hK _ ?_; clear hK K)
                        (refine ordQ_li rfl rfl rfl (fun K hK => ?_); go_simp; refine hK _ ?_; clear hK K)
                        (refine ordQ_li rfl rfl rfl (fun K hK => ?_); go_simp; refine hK _ ?_; clear hK K)
                        (refine ordQ_li rfl rfl rfl (fun K hK => ?_); go_simp; refine hK _ ?_; clear hK K)
                        (refine ordQ_li rfl rfl rfl (fun K hK => ?_); go_simp; refine hK _ ?_; clear hK K)
                        (refine ordQ_li rfl rfl rfl (fun K hK => ?_); go_simp; refine hK _ ?_; clear hK K)
                        refine ordQ_fin ⟨rfl, ?_⟩
                        go_wp2_with (fail)
                        go_meet
                        exact ⟨min ta ra, rfl, Lib.hid HPN.out.symm, Lib.hid HDb.out.drew⟩
                      · have eb : ((now : Int) == (mn : Int)) = false := by simp; omega
                        have HPN : Hid (pvF v l pn mn (now + 1) k = pvF v l pn mn now k) := Lib.hid (by
                          unfold pvF
                          by_cases h : mn < now
                          · rw [if_pos h, if_pos (by omega)]
                          · rw [if_neg h, if_neg (by omega)])
                        go_wp2_with (fail)
                        go_meet
                        exact ⟨pv, rfl, Lib.hid (HPN.out.symm ▸ HPV.out), HDb⟩
                  case rest =>
                    obtain ⟨pw, rfl, HPW, HDc⟩ := hcut
                    clear HDb
                    go_wp2_with (fail)
                    go_loopw [14] (fun i14 wr => ∃ k2 : Nat, i14 = I k2 ∧ Hid (SeeP v l now k2 (now + 1)) ∧ Hid (pw = pvF v l pn mn (now + 1) k2) ∧ Hid (DocW w wr v A1 A2 A3 q1 q2 q3 tb (tb + 1) rw1 (now + 1) (fun q => thM v (l.take k2) q (now + 1)) (fun j kk => outM (l.take k2) j kk))) (fun i _ => l.length - (intOf i).toNat)
                    case atStart => exact ⟨k, rfl, HP1, HPW, HDc⟩
                    case round =>
                      obtain ⟨k2, rfl, HP2, HPW2, HD2⟩ := hrel
                      clear HDc HPW HP1 HPV HP
                      by_cases hk2 : k2 < l.length
                      · obtain ⟨lb, lf, hAL, hlbb, hlc⟩ := (HL.out.below HD2.out.bl) (by omega)
                        subst hAL
                        obtain ⟨m0, m1, m2⟩ := hlc k2 hk2
                        clear hlc
                        have k2a : (k2 : Int) < (l.length : Int) := by omega
                        have k20 : (0 : Int) ≤ (k2 : Int) := by omega
                        have hwk2 : IntKind.i64.wrap ((k2 : Int) + 1) = (k2 : Int) + 1 := IntWalk.i64_in _ (by omega)
                        have hwT : IntKind.i64.wrap ((v.tr.length : Int) - 1) = (v.tr.length : Int) - 1 := IntWalk.i64_in _ (by omega)
                        have hzz : w.heap.size < wr.heap.size := by have := HD2.out.size; omega
                        have htbz := HD2.out.thx.1
                        have hobz := HD2.out.obx.1
                        obtain ⟨x1, _⟩ := HD2.out.bx.at_ 1 _ rfl
                        have HFA : Hid (∀ c : Int, chkM v (l.take k2) now l[k2] = c → c ≠ 0 → c ≠ -1 → ∀ W, Below wr.heap.size wr W → R (.returned (.tuple #[I 0, I k2, I c])) W) := Lib.hid fun c hc h0 h1 W hW =>
                          HF.out k2 c (HP2.out.at_.fault hlt hk2 hc h0 h1) h0 W (HD2.out.below hW).bl
                        obtain ⟨t0, ht0⟩ : ∃ z, l[k2].1 = z := ⟨_, rfl⟩
                        obtain ⟨t1, ht1⟩ : ∃ z, l[k2].2.1 = z := ⟨_, rfl⟩
                        obtain ⟨t2, ht2⟩ : ∃ z, l[k2].2.2 = z := ⟨_, rfl⟩
                        rw [ht0] at m0
                        rw [ht1] at m1
                        rw [ht2] at m2
                        obtain ⟨s1, hs1⟩ : ∃ s, inB t1 0 ((v.tr.length : Int) - 1) = s := ⟨_, rfl⟩
                        obtain ⟨s2, hs2⟩ : ∃ s, inB t2 1 1000 = s := ⟨_, rfl⟩
                        obtain ⟨s3, hs3⟩ : ∃ s, inB t0 0 60 = s := ⟨_, rfl⟩
                        have HMO : Hid (mvOk v l[k2] = (s1 && s2 && s3)) := Lib.hid (by unfold mvOk; rw [ht0, ht1, ht2, hs1, hs2, hs3])
                        by_cases hsb : (s1 && s2 && s3) = false
                        · as_aux_lemma =>
                            have HFB := Lib.hid (HFA.out 1 (by unfold chkM; rw [HMO.out, hsb]; rfl) (by decide) (by decide))
                            clear HFA HP2 HMO
                            cases s1 <;> cases s2 <;> cases s3 <;> first | (cases hsb; done) | skip
                            all_goals clear hsb
                            all_goals go_wp2_with (first
                                | (go_at_call 39; refine (in39 _ _ _ _).mono ?_; rintro e w9 ⟨rfl, rfl⟩)
                                | fail)
                            all_goals refine bodyPost_ret (v := .tuple #[I 0, I k2, I 1]) (by simp [results, Tryd.results15, go_sem]) rfl (HFB.out _ (by (repeat' (first | assumption | exact Below.refl _ _ | refine Below.drew ?_ | refine below_drewN ?_ _ | refine Below.setCell ?_ (by first | omega | (simp; done) | (simp; omega)) _ | refine Below.alloc ?_ (by first | omega | (simp; done) | (simp; omega)) _ | refine Below.trans ?_ (Below.mono (by assumption) (by first | omega | (simp; done) | (simp; omega)))))))
                        obtain ⟨rfl, rfl, rfl⟩ : s1 = true ∧ s2 = true ∧ s3 = true := by cases s1 <;> cases s2 <;> cases s3 <;> simp_all
                        have HOK := Lib.hid (mvOk_iff.1 HMO.out)
                        clear hsb
                        by_cases h7 : t0 < (now : Int)
                        · as_aux_lemma =>
                            have HFB := Lib.hid (HFA.out 7 (by unfold chkM; rw [HMO.out, ht0]; simp [h7]) (by decide) (by decide))
                            clear HFA HP2
                            go_wp2_with (first
                              | (go_at_call 39; refine (in39 _ _ _ _).mono ?_; rintro e w9 ⟨rfl, rfl⟩)
                              | fail)
                            refine bodyPost_ret (v := .tuple #[I 0, I k2, I 7]) (by simp [results, Tryd.results15, go_sem]) rfl (HFB.out _ (by (repeat' (first | assumption | exact Below.refl _ _ | refine Below.drew ?_ | refine below_drewN ?_ _ | refine Below.setCell ?_ (by first | omega | (simp; done) | (simp; omega)) _ | refine Below.alloc ?_ (by first | omega | (simp; done) | (simp; omega)) _ | refine Below.trans ?_ (Below.mono (by assumption) (by first | omega | (simp; done) | (simp; omega)))))))
                        by_cases h8 : (now : Int) < t0
                        · as_aux_lemma =>
                            have HP3 := Lib.hid (HP2.out.later hlt hk2 (by unfold chkM; rw [HMO.out, ht0]; simp [h7, h8]))
                            clear HFA HP2
                            have HD3 : Hid (∀ W, Below wr.heap.size wr W → DocW w W v A1 A2 A3 q1 q2 q3 tb (tb + 1) rw1 (now + 1) (fun q => thM v (l.take k2) q (now + 1)) (fun j kk => outM (l.take k2) j kk)) := Lib.hid fun W h => HD2.out.below h
                            go_wp2_with (first
                              | (go_at_call 39; refine (in39 _ _ _ _).mono ?_; rintro e w9 ⟨rfl, rfl⟩)
                              | fail)
                            go_roundw
                            case rel => exact ⟨k2, now + 1, rw1, pw, rfl, rfl, by go_num, by omega, HPW2, HP3, Lib.hid (HD3.out _ (by (repeat' (first | assumption | exact Below.refl _ _ | refine Below.drew ?_ | refine below_drewN ?_ _ | refine Below.setCell ?_ (by first | omega | (simp; done) | (simp; omega)) _ | refine Below.alloc ?_ (by first | omega | (simp; done) | (simp; omega)) _ | refine Below.trans ?_ (Below.mono (by assumption) (by first | omega | (simp; done) | (simp; omega)))))))⟩
                            case measure => first | (simp [intOf]; done) | (simp [intOf]; omega)
                        obtain rfl : t0 = (now : Int) := by omega
                        as_aux_lemma =>
                          have hok := HOK.out
                          obtain ⟨j, rfl⟩ : ∃ j : Nat, t1 = j := ⟨t1.toNat, by have := hok.k; rw [ht1] at this; omega⟩
                          have hjl : j < v.tr.length := by have := hok.k; rw [ht1, Int.toNat_natCast] at this; exact this.2
                          have hc2 : 1 ≤ t2 ∧ t2 ≤ 1000 := by have := hok.c; rw [ht2] at this; exact this
                          have htop := HP2.out.top HV.out hl
                          have hfo := far_ok HV.out hjl
                          unfold Vis.n at hfo
                          obtain ⟨ao, hao⟩ : ∃ z, outM (l.take k2) now j = z := ⟨_, rfl⟩
                          have hab := htop.2.2 now j
                          rw [hao] at hab
                          have HCK : Hid (chkM v (l.take k2) now l[k2] = if (v.far j).2.2.2 < ao + t2 then 9 else if thM v (l.take k2) (v.far j).1.toNat (now + 1) < t2 then 10 else 0) := Lib.hid (by unfold chkM; rw [HMO.out, ht0, ht1, ht2, Int.toNat_natCast, hao]; simp [thM_succ]; first | rfl | congr)
                          obtain ⟨rb, ro, hA2, hrb, hrc⟩ := (HI.out.below HD2.out.bl).tr (by omega)
                          subst hA2
                          obtain ⟨r0, _, _, r3⟩ := hrc j hjl
                          rw [← v.far_at hjl] at r0 r3
                          have e1 : (v.far j).1 = ((v.far j).1.toNat : Int) := by omega
                          rw [e1] at r0
                          have hmk : l[k2].2.1.toNat = j := by rw [ht1, Int.toNat_natCast]
                          have HSTEP : Hid (¬ (v.far j).2.2.2 < ao + t2 → ¬ thM v (l.take k2) (v.far j).1.toNat (now + 1) < t2 → SeeP v l now (k2 + 1) (now + 1) ∧ (∀ q, thM v (l.take (k2 + 1)) q (now + 1) = if q = (v.far j).1.toNat then thM v (l.take k2) q (now + 1) - t2 else thM v (l.take k2) q (now + 1)) ∧ (∀ i, outM (l.take (k2 + 1)) now i = if i = j then outM (l.take k2) now i + t2 else outM (l.take k2) now i) ∧ pvF v l pn mn (now + 1) (k2 + 1) = pvF v l pn mn (now + 1) k2 ∧ ∀ i u, u < now → outM (l.take (k2 + 1)) u i = outM (l.take k2) u i) := Lib.hid fun h9 h10 => by
                            obtain ⟨sp, sth, _, sou, spv⟩ := HP2.out.make HV.out hlt hk2 (by rw [HCK.out, if_neg h9, if_neg h10]) HOK.out (by rw [ht0, Int.toNat_natCast]) (by rw [hmk, ht2]; omega)
                            rw [hmk, ht2] at sth sou
                            refine ⟨sp, sth, sou, spv pn mn, fun i u hu => ?_⟩
                            rw [take_succ hk2, outM_snoc, ht0, Int.toNat_natCast, if_neg (fun h => by omega)]
                            omega
                          obtain ⟨f0, hf0⟩ : ∃ z, (v.far j).1.toNat = z := ⟨_, rfl⟩
                          obtain ⟨rr, hrr⟩ : ∃ z, (v.far j).2.2.2 = z := ⟨_, rfl⟩
                          have hf0n : f0 < v.rm.length := by omega
                          have hrr2 : 0 ≤ rr ∧ rr ≤ 1000 := by omega
                          have hth := htop.1 f0 hf0n
                          rw [hf0] at r0 HCK HSTEP
                          rw [hrr] at r3 HCK HSTEP
                          obtain ⟨tv, htv⟩ : ∃ z, thM v (l.take k2) f0 (now + 1) = z := ⟨_, rfl⟩
                          rw [htv] at hth HCK
                          have HTV := Lib.hid htv
                          have HAO := Lib.hid hao
                          have hB1 : Below wr.heap.size wr (wr.alloc (.cells #[I now, I j, I t2] 56)) := below1 wr _
                          have HD1 := Lib.hid (HD2.out.below hB1)
                          have hbm : Box (wr.alloc (.cells #[I now, I j, I t2] 56)) wr.heap.size [I now, I j, I t2] := Box.new wr [I now, I j, I t2] 56
                          have r0' := (hB1.cell (p := ⟨rb, ro + j * 4, none⟩) (by show rb < _; omega)).trans r0
                          have r3' := (hB1.cell (p := ⟨rb, ro + j * 4 + 3, none⟩) (by show rb < _; omega)).trans r3
                          have hmbl : wr.heap.size ≠ tb ∧ wr.heap.size ≠ tb + 1 ∧ wr.heap.size ≠ rw1 now := by
                            have := (HD2.out.rw_ now (by omega)).1
                            omega
                          clear hok hfo htop hrc r0 r3 e1 hf0 hrr htv hao ht0 ht1 ht2 hmk HMO HOK
                          have ja0 : (0 : Int) ≤ (j : Int) := by omega
                          have ja1 : (j : Int) < (v.tr.length : Int) := by omega
                          have fa0 : (0 : Int) ≤ (f0 : Int) := by omega
                          have fa1 : (f0 : Int) < (v.rm.length : Int) := by omega
                          have hwA : IntKind.i64.wrap (ao + t2) = ao + t2 := IntWalk.i64_in _ (by omega)
                          have hwB : IntKind.i64.wrap (tv - t2) = tv - t2 := IntWalk.i64_in _ (by omega)
                          go_wp2_with (first
                            | (go_at_call 39; refine (in39 _ _ _ _).mono ?_; rintro e w9 ⟨rfl, rfl⟩)
                            | fail)
                          obtain ⟨W1, hW1⟩ : ∃ z, wr.alloc (.cells #[I now, I j, I t2] 56) = z := ⟨_, rfl⟩
                          rw [hW1] at hB1 HD1 hbm r0' r3'
                          simp only [hW1]
                          clear hW1 x1 m0 m1 m2
                          obtain ⟨y1, _⟩ := HD1.out.bx.at_ 1 _ rfl
                          obtain ⟨oc, _⟩ := HD1.out.obx.at_ now _ (outL_at rw1 (n := v.tr.length) (Nat.lt_succ_self now) (by omega))
                          obtain ⟨rc, rcf⟩ := (HD1.out.rw_ now (Nat.lt_succ_self now)).at_ j _ (thL_at _ hjl)
                          rw [HAO.out] at rc
                          obtain ⟨tc, tcf⟩ := HD1.out.thx.at_ f0 _ (thL_at _ hf0n)
                          rw [HTV.out] at tc
                          obtain ⟨b0, _⟩ := hbm.at_ 0 _ rfl
                          obtain ⟨b1, _⟩ := hbm.at_ 1 _ rfl
                          obtain ⟨b2, _⟩ := hbm.at_ 2 _ rfl
                          refine (wpIn_wide (n := 9)).1 ?_
                          refine wpIn_region_plan (Plan.ons [0, 1, 2, 3, 4, 5, 6, 7, 8, 9, 10, 11, 12, 13, 14, 15, 16, 17, 18] .fin) [] (fun _ => True) [] rfl (by kernel_rfl) (by kernel_rfl) (fun _ d _ _ _ h => by cases d <;> exact h) trivial ?_
                          (refine ordQ_li rfl rfl rfl (fun K hK => ?_); go_simp; refine hK _ ?_; clear hK K)
                          (refine ordQ_li rfl rfl rfl (fun K hK => ?_); go_simp; refine hK _ ?_; clear hK K)
                          (refine ordQ_li rfl rfl rfl (fun K hK => ?_); go_simp; refine hK _ ?_; clear hK K)
                          (refine ordQ_li rfl rfl rfl (fun K hK => ?_); go_simp; refine hK _ ?_; clear hK K)
                          (refine ordQ_li rfl rfl rfl (fun K hK => ?_); go_simp; refine hK _ ?_; clear hK K)
                          (refine ordQ_li rfl rfl rfl (fun K hK => ?_); go_simp; refine hK _ ?_; clear hK K)
                          (refine ordQ_li rfl rfl rfl (fun K hK => ?_); go_simp; refine hK _ ?_; clear hK K)
                          (refine ordQ_li rfl rfl rfl (fun K hK => ?_); go_simp; refine hK _ ?_; clear hK K)
                          (refine ordQ_li rfl rfl rfl (fun K hK => ?_); go_simp; refine hK _ ?_; clear hK K)
                          (refine ordQ_li rfl rfl rfl (fun K hK => ?_); go_simp; refine hK _ ?_; clear hK K)
                          (refine ordQ_li rfl rfl rfl (fun K hK => ?_); go_simp; refine hK _ ?_; clear hK K)
                          (refine ordQ_li rfl rfl rfl (fun K hK => ?_); go_simp; refine hK _ ?_; clear hK K)
                          (refine ordQ_li rfl rfl rfl (fun K hK => ?_); go_simp; refine hK _ ?_; clear hK K)
                          (refine ordQ_li rfl rfl rfl (fun K hK => ?_); go_simp; refine hK _ ?_; clear hK K)
                          (refine ordQ_li rfl rfl rfl (fun K hK => ?_); go_simp; refine hK _ ?_; clear hK K)
                          (refine ordQ_li rfl rfl rfl (fun K hK => ?_); go_simp; refine hK _ ?_; clear hK K)
                          (refine ordQ_li rfl rfl rfl (fun K hK => ?_); go_simp; refine hK _ ?_; clear hK K)
                          (refine ordQ_li rfl rfl rfl (fun K hK => ?_); go_simp; refine hK _ ?_; clear hK K)
                          (refine ordQ_li rfl rfl rfl (fun K hK => ?_); go_simp; refine hK _ ?_; clear hK K)
                          refine ordQ_fin ?_
                          by_cases h9 : rr < ao + t2
                          · have HFB := Lib.hid (HFA.out 9 (by rw [HCK.out, if_pos h9]) (by decide) (by decide))
                            go_wp2_with (fail)
                            refine bodyPost_ret (v := .tuple #[I 0, I k2, I 9]) (by simp [results, Tryd.results15, go_sem]) rfl (HFB.out _ hB1.drew)
                          go_wp2_with (fail)
                          refine (wpIn_wide (n := 9)).1 ?_
                          refine wpIn_region_plan (Plan.ons [0, 1, 2, 3, 4, 5, 6] .fin) [] (fun _ => True) [] rfl (by kernel_rfl) (by kernel_rfl) (fun _ d _ _ _ h => by cases d <;> exact h) trivial ?_
                          (refine ordQ_li rfl rfl rfl (fun K hK => ?_); go_simp; refine hK _ ?_; clear hK K)
                          (refine ordQ_li rfl rfl rfl (fun K hK => ?_); go_simp; refine hK _ ?_; clear hK K)
                          (refine ordQ_li rfl rfl rfl (fun K hK => ?_); go_simp; refine hK _ ?_; clear hK K)
                          (refine ordQ_li rfl rfl rfl (fun K hK => ?_); go_simp; refine hK _ ?_; clear hK K)
                          (refine ordQ_li rfl rfl rfl (fun K hK => ?_); go_simp; refine hK _ ?_; clear hK K)
                          (refine ordQ_li rfl rfl rfl (fun K hK => ?_); go_simp; refine hK _ ?_; clear hK K)
                          (refine ordQ_li rfl rfl rfl (fun K hK => ?_); go_simp; refine hK _ ?_; clear hK K)
                          refine ordQ_fin ?_
                          by_cases h10 : tv < t2
                          · have HFB := Lib.hid (HFA.out 10 (by rw [HCK.out, if_neg (by omega), if_pos h10]) (by decide) (by decide))
                            go_wp2_with (fail)
                            refine bodyPost_ret (v := .tuple #[I 0, I k2, I 10]) (by simp [results, Tryd.results15, go_sem]) rfl (HFB.out _ hB1.drew.drew)
                          go_wp2_with (fail)
                          refine (wpIn_wide (n := 9)).1 ?_
                          refine wpIn_region_plan (Plan.ons [0, 1, 2, 3, 4, 5, 6, 7, 8, 9, 10] .fin) [] (fun _ => True) [] rfl (by kernel_rfl) (by kernel_rfl) (fun _ d _ _ _ h => by cases d <;> exact h) trivial ?_
                          (refine ordQ_li rfl rfl rfl (fun K hK => ?_); go_simp; refine hK _ ?_; clear hK K)
                          (refine ordQ_li rfl rfl rfl (fun K hK => ?_); go_simp; refine hK _ ?_; clear hK K)
                          (refine ordQ_li rfl rfl rfl (fun K hK => ?_); go_simp; refine hK _ ?_; clear hK K)
                          (refine ordQ_li rfl rfl rfl (fun K hK => ?_); go_simp; refine hK _ ?_; clear hK K)
                          (refine ordQ_li rfl rfl rfl (fun K hK => ?_); go_simp; refine hK _ ?_; clear hK K)
                          (refine ordQ_li rfl rfl rfl (fun K hK => ?_); go_simp; refine hK _ ?_; clear hK K)
                          (refine ordQ_li rfl rfl rfl (fun K hK => ?_); go_simp; refine hK _ ?_; clear hK K)
                          (refine ordQ_li rfl rfl rfl (fun K hK => ?_); go_simp; refine hK _ ?_; clear hK K)
                          (refine ordQ_li rfl rfl rfl (fun K hK => ?_); go_simp; refine hK _ ?_; clear hK K)
                          (refine ordQ_li rfl rfl rfl (fun K hK => ?_); go_simp; refine hK _ ?_; clear hK K)
                          refine ordQ_hv rfl rfl rfl (fun K hK => ?_)
                          gi_wp2
                          refine hK _ _ (fun _ => trivial) ?_
                          clear hK K
                          refine ordQ_fin ?_
                          have HD3 : DocW w (W1.setCell ⟨tb, f0, none⟩ (I (tv - t2))).drew.drew.drew v A1 (some ⟨rb, ro, none⟩) A3 q1 q2 q3 tb (tb + 1) rw1 (now + 1) _ (fun j kk => outM (l.take k2) j kk) := (HD1.out.setTh f0 (tv - t2)).drew.drew.drew
                          have hbm3 : Box (W1.setCell ⟨tb, f0, none⟩ (I (tv - t2))).drew.drew.drew wr.heap.size [I now, I j, I t2] := (hbm.far (p := ⟨tb, f0, none⟩) (fun e => hmbl.1 e.symm) _).drew.drew.drew
                          have hn9 : ¬ rr < ao + t2 := by omega
                          have hn10 : ¬ tv < t2 := by omega
                          obtain ⟨sp, sth, sou, spv, sold⟩ := HSTEP.out (by omega) (by rw [HTV.out]; omega)
                          have HSP := Lib.hid sp
                          have HPX : Hid (pw = pvF v l pn mn (now + 1) (k2 + 1)) := Lib.hid (HPW2.out.trans spv.symm)
                          have HNEW : Hid (∀ W, DocW w W v A1 (some ⟨rb, ro, none⟩) A3 q1 q2 q3 tb (tb + 1) rw1 (now + 1) (fun q => if q = f0 then tv - t2 else thM v (l.take k2) q (now + 1)) (fun j kk => outM (l.take k2) j kk) → DocW w (W.setCell ⟨rw1 now, j, none⟩ (I (ao + t2))) v A1 (some ⟨rb, ro, none⟩) A3 q1 q2 q3 tb (tb + 1) rw1 (now + 1) (fun q => thM v (l.take (k2 + 1)) q (now + 1)) (fun j kk => outM (l.take (k2 + 1)) j kk)) := Lib.hid fun W hW => (hW.setRow (Nat.lt_succ_self now) j (ao + t2)).congr (fun q _ => by
                            rw [sth q]
                            by_cases e : q = f0
                            · subst e; rw [if_pos rfl, if_pos rfl, HTV.out]
                            · rw [if_neg e, if_neg e]) (fun i kk hi _ => by
                            by_cases e : i = now
                            · subst e
                              rw [if_pos rfl, sou kk]
                              by_cases e2 : kk = j
                              · subst e2; simp only [if_true]; rw [HAO.out]
                              · rw [if_neg e2]; simp only [if_neg e2]
                            · rw [if_neg e, sold kk i (by omega)])
                          clear sp sth sou spv sold HSTEP hbm HD1 y1 oc rc rcf tc tcf b0 b1 b2 r0' r3' hB1 HFA HP2 HCK h9 h10 hn9 hn10
                          go_wp2_with (fail)
                          generalize (W1.setCell ⟨tb, f0, none⟩ (I (tv - t2))).drew.drew.drew = W2 at *
                          obtain ⟨oc, _⟩ := HD3.obx.at_ now _ (outL_at rw1 (n := v.tr.length) (Nat.lt_succ_self now) (by omega))
                          obtain ⟨rc, rcf⟩ := (HD3.rw_ now (Nat.lt_succ_self now)).at_ j _ (thL_at _ hjl)
                          rw [HAO.out] at rc
                          obtain ⟨b1, _⟩ := hbm3.at_ 1 _ rfl
                          obtain ⟨b2, _⟩ := hbm3.at_ 2 _ rfl
                          have HDF := Lib.hid (HNEW.out _ HD3)
                          clear HNEW HD3 hbm3
                          refine (wpIn_wide (n := 9)).1 ?_
                          refine wpIn_region_plan (Plan.ons [0, 1, 2, 3, 4, 5, 6, 7, 8, 9, 10, 11, 12, 13, 14, 15, 16, 17, 18] .fin) [] (fun _ => True) [] rfl (by kernel_rfl) (by kernel_rfl) (fun _ d _ _ _ h => by cases d <;> exact h) trivial ?_
                          (refine ordQ_li rfl rfl rfl (fun K hK => ?_); go_simp; refine hK _ ?_; clear hK K)
                          (refine ordQ_li rfl rfl rfl (fun K hK => ?_); go_simp; refine hK _ ?_; clear hK K)
                          (refine ordQ_li rfl rfl rfl (fun K hK => ?_); go_simp; refine hK _ ?_; clear hK K)
                          (refine ordQ_li rfl rfl rfl (fun K hK => ?_); go_simp; refine hK _ ?_; clear hK K)
                          (refine ordQ_li rfl rfl rfl (fun K hK => ?_); go_simp; refine hK _ ?_; clear hK K)
                          (refine ordQ_li rfl rfl rfl (fun K hK => ?_); go_simp; refine hK _ ?_; clear hK K)
                          (refine ordQ_li rfl rfl rfl (fun K hK => ?_); go_simp; refine hK _ ?_; clear hK K)
                          (refine ordQ_li rfl rfl rfl (fun K hK => ?_); go_simp; refine hK _ ?_; clear hK K)
                          (refine ordQ_li rfl rfl rfl (fun K hK => ?_); go_simp; refine hK _ ?_; clear hK K)
                          (refine ordQ_li rfl rfl rfl (fun K hK => ?_); go_simp; refine hK _ ?_; clear hK K)
                          (refine ordQ_li rfl rfl rfl (fun K hK => ?_); go_simp; refine hK _ ?_; clear hK K)
                          (refine ordQ_li rfl rfl rfl (fun K hK => ?_); go_simp; refine hK _ ?_; clear hK K)
                          (refine ordQ_li rfl rfl rfl (fun K hK => ?_); go_simp; refine hK _ ?_; clear hK K)
                          (refine ordQ_li rfl rfl rfl (fun K hK => ?_); go_simp; refine hK _ ?_; clear hK K)
                          (refine ordQ_li rfl rfl rfl (fun K hK => ?_); go_simp; refine hK _ ?_; clear hK K)
                          (refine ordQ_li rfl rfl rfl (fun K hK => ?_); go_simp; refine hK _ ?_; clear hK K)
                          (refine ordQ_li rfl rfl rfl (fun K hK => ?_); go_simp; refine hK _ ?_; clear hK K)
                          (refine ordQ_li rfl rfl rfl (fun K hK => ?_); go_simp; refine hK _ ?_; clear hK K)
                          refine ordQ_hv rfl rfl rfl (fun K hK => ?_)
                          gi_wp2
                          refine hK _ _ (fun _ => trivial) ?_
                          clear hK K
                          refine ordQ_fin ?_
                          go_wp2_with (fail)
                          go_roundw
                          case rel => exact ⟨k2 + 1, by go_num, HSP, HPX, Lib.hid HDF.out.drew⟩
                          case measure => first | (simp [intOf]; done) | (simp [intOf]; omega)
                      · as_aux_lemma =>
                          have k2b : ¬ (k2 : Int) < (l.length : Int) := by omega
                          have HP3 := Lib.hid (HP2.out.done hlt (by omega))
                          go_wp2_with (fail)
                          go_roundw
                          case rel => exact ⟨k2, now + 1, rw1, pw, rfl, rfl, by go_num, by omega, HPW2, HP3, HD2⟩
                          case measure => first | (simp [intOf]; done) | (simp [intOf]; omega)
        · have n60 : ¬ (now : Int) ≤ 60 := by omega
          obtain rfl : now = 61 := by omega
          have HN := Lib.hid (HE.out k HP.out.at_.last wr HD.out.bl)
          rw [← HPV.out] at HN
          go_wp2_with (fail)
          refine bodyPost_ret (v := .tuple #[I pv, I k, I 0]) (by simp [results, Tryd.results15, go_sem]) rfl HN.out
    · have hlb : (256 : Int) < (l.length : Int) := by omega
      have HE : Hid (∀ W, Below w.heap.size w W → SeeEnds w v l p m (.returned (.tuple #[I 0, I 0, I 3])) W) := Lib.hid fun W h => by unfold SeeEnds; rw [seeV_long he hl]; exact ⟨rfl, h⟩
      generalize SeeEnds w v l p m = R at *
      go_enter Tryd.func15, Tryd.ntmps15
      go_wp2_with (first
        | (go_at_call 21; refine H21.out.mono ?_; rintro e w4 ⟨rfl, hb4⟩; have hB4 := (HBX.out w4 hb4).2.2)
        | fail)
      refine bodyPost_ret (v := .tuple #[I 0, I 0, I 3]) (by simp [results, Tryd.results15, go_sem]) rfl (HE.out _ hB4)
  · have HS : Hid (seeV v l p m = (0, 0, errN v p m)) := Lib.hid (seeV_err he)
    obtain ⟨en, hen⟩ : ∃ z, errN v p m = z := ⟨_, rfl⟩
    rw [hen] at H21 HS he
    have HE : Hid (∀ W, Below w.heap.size w W → SeeEnds w v l p m (.returned (.tuple #[I 0, I 0, I en])) W) := Lib.hid fun W h => by unfold SeeEnds; rw [HS.out]; exact ⟨rfl, h⟩
    clear hen HS
    generalize SeeEnds w v l p m = R at *
    go_enter Tryd.func15, Tryd.ntmps15
    go_wp2_with (first
      | (go_at_call 21; refine H21.out.mono ?_; rintro e w4 ⟨rfl, hb4⟩; have hB4 := (HBX.out w4 hb4).2.2)
      | fail)
    refine bodyPost_ret (v := .tuple #[I 0, I 0, I en]) (by simp [results, Tryd.results15, go_sem]) rfl (HE.out _ hB4)
end Go.Proofs.YtomfnldlnoiloaaDoor
