/- flows: the walk up. -/
import Derived.Test.YtgdilbilhajgaaaDoorE10
namespace Go.Proofs.YtgdilbilhajgaaaDoor
set_option linter.unusedVariables false
set_option linter.unusedSimpArgs false
open Go Go.RowKit

theorem drop_if {w : World} {B b off rc len j : Nat} {xs : List Int} (h : Ints w B (some ⟨b, off, none⟩) xs) (hl : xs.length = len ∧ len ≤ rc) : Ints w B (if rc = j + 1 then some ⟨b, off, none⟩ else some ⟨b, off + (j + 1), none⟩) (xs.drop (j + 1)) := by
  by_cases e : rc = j + 1
  · intro h0
    simp at h0
    omega
  · rw [if_neg e]
    exact h.drop (j + 1)

set_option maxRecDepth 100000 in
set_option maxHeartbeats 8000000 in
theorem clo64 (tb T ofb sb S rb : Nat) (A : Option Addr) (c : Nat) (m : List (Int × Int)) (sl : List (Int × Int)) (rr : Bool) (i : Nat) (hi : i < m.length) (w00 w : World) (hT00 : TreeAt w00 T A c m) (hB00 : Below w00.heap.size w00 w) (hM : FlMem w w00.heap.size tb T ofb sb S rb m.length sl rr) :
    Calls Tryd.prog 64 #[I i, .pointer (some ⟨tb, 0, none⟩), .pointer (some ⟨ofb, 0, none⟩), .pointer (some ⟨sb, 0, none⟩)] w fun e w' =>
      e = .returned (.tuple #[]) ∧ FlMem w' w00.heap.size tb T ofb sb S rb m.length (upL m i sl (kids m i).length) rr ∧ Frm w.heap.size (fun b => b = S) w w' := by
  obtain ⟨j0, hj0, hj1, hj2, hj3⟩ := info_parts info3
  have hu2 : Tryd.prog.underlying 26 = some (.slice 3) := Tryd.underlying26
  have HU := Lib.hid hu2; have HJ0 := Lib.hid hj0; have HJ1 := Lib.hid hj1; have HJ2 := Lib.hid hj2; have HJ3 := Lib.hid hj3
  clear hu2 hj0 hj1 hj2 hj3
  have HM := Lib.hid hM
  have HT00 := Lib.hid hT00
  have HB00 := Lib.hid hB00
  have hzz := hM.hi
  have htbc := hM.tbc
  have hN := hM.lo
  have hlen0 := hM.len
  obtain ⟨Fb, hFz, f1, hrow⟩ := hT00.from_
  obtain ⟨RA, rc, r1, r2, r3, r4⟩ := hrow i hi
  have hTz := hT00.hT
  have hn16 := hT00.ok.le
  have hMO := Lib.hid hT00.ok
  have hkl : (kids m i).length ≤ 16 := Nat.le_trans (by have := List.length_filter_le (fun k => decide (parW m k = (i : Int))) (List.range m.length); simpa [kids] using this) hn16
  have b0 : (0 : Int) ≤ (i : Int) := by omega
  have b1 : (i : Int) < (m.length : Int) := by omega
  have HLOW : Hid (∀ W, Below w00.heap.size w00 W → W.cell? ⟨T, 1, none⟩ = some (.slice (some ⟨Fb, 0, none⟩) m.length m.length) ∧ W.cell? ⟨Fb, i, none⟩ = some (.slice RA (kids m i).length rc) ∧ Ints W W.heap.size RA ((kids m i).map fun k : Nat => (k : Int))) := Lib.hid fun W hB =>
    ⟨(hB.cell (p := ⟨_, _, none⟩) hTz).trans f1, (hB.cell (p := ⟨_, _, none⟩) hFz).trans r1, (r4.below hB).more hB.size⟩
  clear hrow hM hT00 hB00 f1 r1 r4 HT00
  obtain ⟨z1, z2, z3, z4⟩ := hzz
  obtain ⟨n1, n2, n3, n4, n5⟩ := hN
  have hBsz := HB00.out.size
  obtain ⟨l1, l2, l3⟩ := HLOW.out w HB00.out
  have hTw : T < w.heap.size := by omega
  have hFw : Fb < w.heap.size := by omega
  have HLEN := Lib.hid hlen0
  clear hlen0
  go_enter Tryd.func64, Tryd.ntmps64
  go_wp2_with (fail)
  clear l1 l2 l3 htbc
  go_loopw [16] (fun s wr => ∃ j : Nat, j ≤ (kids m i).length ∧ s = I j ∧ Frm w.heap.size (fun b => b = S) w wr ∧ Hid (FlMem wr w00.heap.size tb T ofb sb S rb m.length (upL m i sl j) rr)) (fun s _ => (kids m i).length - (intOf s).toNat)
  case atStart => exact ⟨0, Nat.zero_le _, rfl, Frm.refl _ _ _, HM⟩
  case round =>
    obtain ⟨j, hj, rfl, hF, HMR⟩ := hrel
    have hBr : Below w00.heap.size w00 wr := HB00.out.trans (hF.below (HB00.out.size) (fun k hk e => by omega))
    have hwz := hF.size
    by_cases hlt : j < (kids m i).length
    · have hI0 := (HLOW.out wr hBr).2.2
      obtain ⟨b, off, rfl, hbz, hcs⟩ := hI0 (by simpa using (show 0 < (kids m i).length by omega))
      have hx0 := hcs j (by simpa using hlt)
      simp only [List.getElem_map] at hx0
      have HKJ : Hid ((kids m i).getD j 0 = (kids m i)[j]) := Lib.hid (by simp [List.getD, hlt])
      have hxm := kids_lt (List.getElem_mem hlt)
      have HUPS : Hid (upL m i sl (j + 1) = (upL m i sl j).set ((kids m i).getD j 0) (chV m (upL m i sl j) i j)) := rfl
      have hul := upL_len m i sl j
      rw [HKJ.out] at HUPS
      have HCH : Hid (chV m (upL m i sl j) i j = andS ((upL m i sl j).getD (kids m i)[j] (0, 0)) (wrap64 (((upL m i sl j).getD i (0, 0)).1 - (plusW ((othersL m i j).map fun k => (upL m i sl j).getD k (0, 0))).2), wrap64 (((upL m i sl j).getD i (0, 0)).2 - (plusW ((othersL m i j).map fun k => (upL m i sl j).getD k (0, 0))).1))) := Lib.hid (by unfold chV; rw [HKJ.out])
      generalize chV m (upL m i sl j) i j = cv at HUPS HCH
      obtain ⟨sq1, hs1⟩ : ∃ sq1, sq1 = upL m i sl (j + 1) := ⟨_, rfl⟩
      rw [← hs1] at HUPS
      have HS1 := Lib.hid hs1
      clear hs1
      generalize upL m i sl j = sq at *
      generalize (kids m i)[j] = x at *
      have hxl : x < sq.length := by rw [hul, HLEN.out]; exact hxm
      have hil : i < sq.length := by rw [hul, HLEN.out]; exact hi
      have HG1 : Hid (sq.getD x (0, 0) = sq[x]) := Lib.hid (by simp [List.getD, hxl])
      have HG2 : Hid (sq.getD i (0, 0) = sq[i]) := Lib.hid (by simp [List.getD, hil])
      have HI0 := Lib.hid (show Ints wr wr.heap.size (some ⟨b, off, none⟩) ((kids m i).map fun k : Nat => (k : Int)) from (HLOW.out wr hBr).2.2)
      have HL1 : Hid ((((kids m i).map fun k : Nat => (k : Int)).take j).length = j) := Lib.hid (by simp; omega)
      have HL2 : Hid ((((kids m i).map fun k : Nat => (k : Int)).drop (j + 1)).length = (kids m i).length - (j + 1)) := Lib.hid (by simp)
      have HRC : Hid (((kids m i).map fun k : Nat => (k : Int)).length = (kids m i).length ∧ (kids m i).length ≤ rc) := Lib.hid ⟨by simp, r2⟩
      have HM1 : Hid (j + ((kids m i).length - (j + 1)) ≤ maxLen) := Lib.hid (by unfold maxLen; omega)
      have HM2 : Hid ((j + ((kids m i).length - (j + 1))) * 8 ≤ 140737488355328) := Lib.hid (by omega)
      have hol : (othersL m i j).length = j + ((kids m i).length - (j + 1)) := by simp [othersL]; omega
      have HOL := Lib.hid hol
      have hcb : ∀ k ∈ othersL m i j, k < m.length := fun k hk => by
        rcases List.mem_append.1 hk with h | h
        · exact kids_lt (List.mem_of_mem_take h)
        · exact kids_lt (List.mem_of_mem_drop h)
      have HLR := Lib.hid hBr
      clear hcs hBr hol
      obtain ⟨_, ⟨y1, y2, y3, y4⟩, _, d1, d2, d3, hql, hsp, d4, d5⟩ := HMR.out
      have HCEL : Hid (∀ W, Below wr.heap.size wr W → W.cell? ⟨ofb, 0, none⟩ = some (.func (.func 59) #[] #[.pointer (some ⟨sb, 0, none⟩)]) ∧ W.cell? ⟨tb, 0, none⟩ = some (.pointer (some ⟨T, 0, none⟩)) ∧ W.cell? ⟨T, 1, none⟩ = some (.slice (some ⟨Fb, 0, none⟩) m.length m.length) ∧ W.cell? ⟨Fb, i, none⟩ = some (.slice (some ⟨b, off, none⟩) (kids m i).length rc)) := Lib.hid fun W hW =>
        have h := HLOW.out W (HLR.out.trans (hW.mono (by omega)))
        ⟨(hW.cell (p := ⟨_, _, none⟩) y2).trans d2, (hW.cell (p := ⟨_, _, none⟩) y1).trans d1, h.1, h.2.1⟩
      have HOF0 : Hid (∀ W, Below wr.heap.size wr W → ∀ A' c', Ints W W.heap.size A' ((othersL m i j).map fun k : Nat => (k : Int)) → Calls Tryd.prog 59 #[.slice A' (j + ((kids m i).length - (j + 1))) c', .pointer (some ⟨sb, 0, none⟩)] W fun e w' => ∃ A c, e = .returned (.slice A (j + ((kids m i).length - (j + 1))) c) ∧ Pairs w' w'.heap.size A ((othersL m i j).map fun k => sq.getD k (0, 0)) ∧ Below W.heap.size W w') := Lib.hid fun W hW A' c' hI' => by
        rw [← HOL.out]
        exact of59 sb S m.length m.length sq hql A' c' (othersL m i j) W hcb (by rw [HOL.out]; omega) hI' (by have := hW.size; omega) ((hW.cell (p := ⟨_, _, none⟩) y3).trans d3) (hsp.call hW)
      have HPL0 : Hid (∀ W A' c', Pairs W W.heap.size A' ((othersL m i j).map fun k => sq.getD k (0, 0)) → Calls Tryd.prog 61 #[.slice A' (j + ((kids m i).length - (j + 1))) c'] W fun e w' => e = .returned (.agg #[I (plusW ((othersL m i j).map fun k => sq.getD k (0, 0))).1, I (plusW ((othersL m i j).map fun k => sq.getD k (0, 0))).2]) ∧ Below W.heap.size W w') := Lib.hid fun W A' c' hx => by
        have := plus61 A' c' _ W hx (by rw [List.length_map, HOL.out]; omega)
        rw [List.length_map, HOL.out] at this
        exact this
      generalize hplw : plusW ((othersL m i j).map fun k => sq.getD k (0, 0)) = ow at *
      obtain ⟨oa, ob⟩ := ow
      have a0 : (0 : Int) ≤ (j : Int) := by omega
      have a1 : (j : Int) < ((kids m i).length : Int) := by omega
      have a2 : (j : Int) ≤ (rc : Int) := by omega
      have a3 : (0 : Int) ≤ (j : Int) + 1 := by omega
      have a4 : (j : Int) + 1 ≤ ((kids m i).length : Int) := by omega
      have a5 : ((kids m i).length : Int) ≤ (rc : Int) := by omega
      have hadd : IntKind.i64.wrap ((j : Int) + 1) = (j : Int) + 1 := IntWalk.i64_in _ (by omega)
      obtain ⟨o2, ho2⟩ : ∃ o2 : Option Addr, (if rc = j + 1 then some (⟨b, off, none⟩ : Addr) else some ⟨b, off + (j + 1), none⟩) = o2 := ⟨_, rfl⟩
      have HO2 := Lib.hid ho2
      clear d1 d2 d3 d4 d5 hsp hplw
      go_wp2_with (fail)
      go_cut [7] (fun s7 wx => ∃ g7, s7 = .pointer (some ⟨g7, 0, none⟩) ∧ wr.heap.size ≤ g7 ∧ Below wr.heap.size wr wx ∧ Hid (Box wx g7 [I oa, I ob]))
      case first =>
        refine (wpIn_wide (n := 9)).1 ?_
        refine wpIn_region_plan (Plan.ons [0, 1, 2, 3, 4, 5, 6, 7, 8, 9, 10, 11, 12, 13, 14, 15, 16, 17, 18, 19, 20] (.two 21 (.two 22 (.two 23 (Plan.ons [24, 25] .fin) 24 (Plan.ons [23, 25] .fin)) 24 (Plan.ons [22, 23, 25] .fin)) 24 (Plan.ons [21, 22, 23, 25] .fin))) [0, 1, 2, 3, 4, 5, 6, 7, 8, 9, 10, 11, 12, 13, 14, 15, 16, 17, 18, 19, 20]
          (fun W' => Below wr.heap.size wr W') [25] rfl (by kernel_rfl) (by kernel_rfl) (fun _ d _ _ _ h => by cases d <;> exact h) (Below.refl _ _).drew ?_
        (refine ordQ_held (.func (.func 59) #[] #[.pointer (some ⟨sb, 0, none⟩)]) rfl rfl rfl rfl (fun W' hC' => ?_) (fun K hK => ?_); (focus (obtain ⟨e0, e1, e2, e3⟩ := HCEL.out _ hC'; go_simp; try exact ⟨rfl, rfl⟩)); go_simp; refine hK _ ?_; clear hK K)
        (refine ordQ_held (.pointer (some ⟨T, 0, none⟩)) rfl rfl rfl rfl (fun W' hC' => ?_) (fun K hK => ?_); (focus (obtain ⟨e0, e1, e2, e3⟩ := HCEL.out _ hC'; go_simp; try exact ⟨rfl, rfl⟩)); go_simp; refine hK _ ?_; clear hK K)
        (refine ordQ_held (.pointer (some ⟨T, 0, none⟩)) rfl rfl rfl rfl (fun W' hC' => ?_) (fun K hK => ?_); (focus (obtain ⟨e0, e1, e2, e3⟩ := HCEL.out _ hC'; go_simp; try exact ⟨rfl, rfl⟩)); go_simp; refine hK _ ?_; clear hK K)
        (refine ordQ_held (.pointer (some ⟨T, 1, none⟩)) rfl rfl rfl rfl (fun W' hC' => ?_) (fun K hK => ?_); (focus (obtain ⟨e0, e1, e2, e3⟩ := HCEL.out _ hC'; go_simp; try exact ⟨rfl, rfl⟩)); go_simp; refine hK _ ?_; clear hK K)
        (refine ordQ_held (.slice (some ⟨Fb, 0, none⟩) m.length m.length) rfl rfl rfl rfl (fun W' hC' => ?_) (fun K hK => ?_); (focus (obtain ⟨e0, e1, e2, e3⟩ := HCEL.out _ hC'; go_simp; try exact ⟨rfl, rfl⟩)); go_simp; refine hK _ ?_; clear hK K)
        (refine ordQ_held (I i) rfl rfl rfl rfl (fun W' hC' => ?_) (fun K hK => ?_); (focus (obtain ⟨e0, e1, e2, e3⟩ := HCEL.out _ hC'; go_simp; try exact ⟨rfl, rfl⟩)); go_simp; refine hK _ ?_; clear hK K)
        (refine ordQ_held (.pointer (some ⟨Fb, i, none⟩)) rfl rfl rfl rfl (fun W' hC' => ?_) (fun K hK => ?_); (focus (obtain ⟨e0, e1, e2, e3⟩ := HCEL.out _ hC'; go_simp; try exact ⟨rfl, rfl⟩)); go_simp; refine hK _ ?_; clear hK K)
        (refine ordQ_held (.slice (some ⟨b, off, none⟩) (kids m i).length rc) rfl rfl rfl rfl (fun W' hC' => ?_) (fun K hK => ?_); (focus (obtain ⟨e0, e1, e2, e3⟩ := HCEL.out _ hC'; go_simp; try exact ⟨rfl, rfl⟩)); go_simp; refine hK _ ?_; clear hK K)
        (refine ordQ_held (I j) rfl rfl rfl rfl (fun W' hC' => ?_) (fun K hK => ?_); (focus (obtain ⟨e0, e1, e2, e3⟩ := HCEL.out _ hC'; go_simp; try exact ⟨rfl, rfl⟩)); go_simp; refine hK _ ?_; clear hK K)
        (refine ordQ_held (I j) rfl rfl rfl rfl (fun W' hC' => ?_) (fun K hK => ?_); (focus (obtain ⟨e0, e1, e2, e3⟩ := HCEL.out _ hC'; go_simp; try exact ⟨rfl, rfl⟩)); go_simp; refine hK _ ?_; clear hK K)
        (refine ordQ_held (.slice (some ⟨b, off, none⟩) j j) rfl rfl rfl rfl (fun W' hC' => ?_) (fun K hK => ?_); (focus (obtain ⟨e0, e1, e2, e3⟩ := HCEL.out _ hC'; go_simp; try exact ⟨rfl, rfl⟩)); go_simp; refine hK _ ?_; clear hK K)
        (refine ordQ_held (.pointer (some ⟨T, 0, none⟩)) rfl rfl rfl rfl (fun W' hC' => ?_) (fun K hK => ?_); (focus (obtain ⟨e0, e1, e2, e3⟩ := HCEL.out _ hC'; go_simp; try exact ⟨rfl, rfl⟩)); go_simp; refine hK _ ?_; clear hK K)
        (refine ordQ_held (.pointer (some ⟨T, 0, none⟩)) rfl rfl rfl rfl (fun W' hC' => ?_) (fun K hK => ?_); (focus (obtain ⟨e0, e1, e2, e3⟩ := HCEL.out _ hC'; go_simp; try exact ⟨rfl, rfl⟩)); go_simp; refine hK _ ?_; clear hK K)
        (refine ordQ_held (.pointer (some ⟨T, 1, none⟩)) rfl rfl rfl rfl (fun W' hC' => ?_) (fun K hK => ?_); (focus (obtain ⟨e0, e1, e2, e3⟩ := HCEL.out _ hC'; go_simp; try exact ⟨rfl, rfl⟩)); go_simp; refine hK _ ?_; clear hK K)
        (refine ordQ_held (.slice (some ⟨Fb, 0, none⟩) m.length m.length) rfl rfl rfl rfl (fun W' hC' => ?_) (fun K hK => ?_); (focus (obtain ⟨e0, e1, e2, e3⟩ := HCEL.out _ hC'; go_simp; try exact ⟨rfl, rfl⟩)); go_simp; refine hK _ ?_; clear hK K)
        (refine ordQ_held (I i) rfl rfl rfl rfl (fun W' hC' => ?_) (fun K hK => ?_); (focus (obtain ⟨e0, e1, e2, e3⟩ := HCEL.out _ hC'; go_simp; try exact ⟨rfl, rfl⟩)); go_simp; refine hK _ ?_; clear hK K)
        (refine ordQ_held (.pointer (some ⟨Fb, i, none⟩)) rfl rfl rfl rfl (fun W' hC' => ?_) (fun K hK => ?_); (focus (obtain ⟨e0, e1, e2, e3⟩ := HCEL.out _ hC'; go_simp; try exact ⟨rfl, rfl⟩)); go_simp; refine hK _ ?_; clear hK K)
        (refine ordQ_held (.slice (some ⟨b, off, none⟩) (kids m i).length rc) rfl rfl rfl rfl (fun W' hC' => ?_) (fun K hK => ?_); (focus (obtain ⟨e0, e1, e2, e3⟩ := HCEL.out _ hC'; go_simp; try exact ⟨rfl, rfl⟩)); go_simp; refine hK _ ?_; clear hK K)
        (refine ordQ_held (I j) rfl rfl rfl rfl (fun W' hC' => ?_) (fun K hK => ?_); (focus (obtain ⟨e0, e1, e2, e3⟩ := HCEL.out _ hC'; go_simp; try exact ⟨rfl, rfl⟩)); go_simp; refine hK _ ?_; clear hK K)
        (refine ordQ_held (I ((j : Int) + 1)) rfl rfl rfl rfl (fun W' hC' => ?_) (fun K hK => ?_); (focus (obtain ⟨e0, e1, e2, e3⟩ := HCEL.out _ hC'; go_simp; try exact ⟨rfl, rfl⟩)); go_simp; refine hK _ ?_; clear hK K)
        (refine ordQ_held (.slice o2 ((kids m i).length - (j + 1)) (rc - (j + 1))) rfl rfl rfl rfl (fun W' hC' => ?_) (fun K hK => ?_); (focus (obtain ⟨e0, e1, e2, e3⟩ := HCEL.out _ hC'; go_simp; try exact ⟨rfl, rfl⟩)); go_simp; refine hK _ ?_; clear hK K)
        have hbd : Below wr.heap.size wr wr.drew := (Below.refl _ _).drew
        refine ordQ_two rfl rfl rfl rfl (fun K hK => ?_) (fun K hK => ?_)
        · refine opIn_append_cut rfl wr.drew _ _ 26 rfl 3 j0 8 HU.out HJ0.out HJ1.out HJ2.out HJ3.out b off (((kids m i).map fun k : Nat => (k : Int)).take j) j HL1.out rfl (((HI0.out.below hbd).more (hbd.size)).take j) _ _ ((kids m i).length - (j + 1)) (((kids m i).map fun k : Nat => (k : Int)).drop (j + 1)) HL2.out rfl (HO2.out ▸ drop_if ((HI0.out.below hbd).more (hbd.size)) HRC.out) HM1.out HM2.out ?_
          intro A1 c1 x1 hi1 hB1
          have hb1 : Below wr.heap.size wr x1 := hbd.trans (hB1.mono hbd.size)
          have HA1 : Hid (Ints x1 x1.heap.size A1 ((othersL m i j).map fun k : Nat => (k : Int))) := Lib.hid (by rw [show ((othersL m i j).map fun k : Nat => (k : Int)) = ((kids m i).map fun k : Nat => (k : Int)).take j ++ ((kids m i).map fun k : Nat => (k : Int)).drop (j + 1) by simp [othersL, List.map_take, List.map_drop]]; exact hi1)
          refine hK _ _ (fun _ => hb1) ?_
          clear hK K hi1
          refine ordQ_two rfl rfl rfl rfl (fun K hK => ?_) (fun K hK => ?_)
          · gi_wp2_with (refine And.intro trivial ?_; gi_at_call 59; refine callsIn_wide.2 ((HOF0.out x1 hb1 _ _ HA1.out).mono ?_); rintro e x2 ⟨A2, c2, rfl, hp2, hB2⟩)
            have hb2 : Below wr.heap.size wr x2 := hb1.trans (hB2.mono hb1.size)
            have HP2 := Lib.hid hp2
            refine hK _ _ (fun _ => hb2) ?_
            clear hK K hp2
            refine ordQ_two rfl rfl rfl rfl (fun K hK => ?_) (fun K hK => ?_)
            · gi_wp2_with (refine And.intro trivial ?_; gi_at_call 61; refine callsIn_wide.2 ((HPL0.out x2 _ _ HP2.out).mono ?_); rintro e x3 ⟨rfl, hB3⟩)
              have hb3 : Below wr.heap.size wr x3 := hb2.trans (hB3.mono hb2.size)
              refine hK _ _ (fun _ => hb3) ?_
              clear hK K
              refine ordQ_hv rfl rfl rfl (fun K hK => ?_)
              have hb4 : Below wr.heap.size wr ((x3.alloc (.cells #[Value.int .i64 0, Value.int .i64 0] 68))) := hb3.alloc hb3.size _
              have bx4 : Box ((x3.alloc (.cells #[Value.int .i64 0, Value.int .i64 0] 68))) x3.heap.size [I 0, I 0] := Box.new x3 [I 0, I 0] 68
              have bl : wr.heap.size ≤ x3.heap.size := hb3.size
              gi_wp2
              refine hK _ _ (fun _ => hb4) ?_
              clear hK K
              obtain ⟨x4, hx4⟩ : ∃ x4, x4 = (x3.alloc (.cells #[Value.int .i64 0, Value.int .i64 0] 68)) := ⟨_, rfl⟩
              rw [← hx4] at hb4 bx4
              rw [← hx4]
              clear hx4
              refine ordQ_hv rfl rfl rfl (fun K hK => ?_)
              obtain ⟨bq0, bf0⟩ := bx4.at_ 0 _ rfl
              obtain ⟨bq1, bf1⟩ := bx4.at_ 1 _ rfl
              have hfin := ((bx4.set 0 (I oa)).set 1 (I ob))
              simp only [List.set_cons_zero, List.set_cons_succ] at hfin
              have hbf : Below wr.heap.size wr ((x4.setCell ⟨x3.heap.size, 0, none⟩ (I oa)).setCell ⟨x3.heap.size, 1, none⟩ (I ob)) := (hb4.setCell bl _).setCell bl _
              have hgz := bx4.1
              gi_wp2
              refine hK _ _ (fun h => by cases h) ?_
              clear hK K
              refine ordQ_fin ?_
              go_wp2_with (fail)
              go_meet
              exact ⟨x3.heap.size, rfl, bl, hbf, Lib.hid hfin⟩
            · have hb3 : Below wr.heap.size wr ((x2.alloc (.cells #[Value.int .i64 0, Value.int .i64 0] 68))) := hb2.alloc hb2.size _
              have bx3 : Box ((x2.alloc (.cells #[Value.int .i64 0, Value.int .i64 0] 68))) x2.heap.size [I 0, I 0] := Box.new x2 [I 0, I 0] 68
              have bl : wr.heap.size ≤ x2.heap.size := hb2.size
              have HP3 : Hid (Pairs ((x2.alloc (.cells #[Value.int .i64 0, Value.int .i64 0] 68))) ((x2.alloc (.cells #[Value.int .i64 0, Value.int .i64 0] 68))).heap.size _ ((othersL m i j).map fun k => sq.getD k (0, 0))) := Lib.hid ((HP2.out.below ((Below.refl x2.heap.size x2).alloc (Nat.le_refl _) _)).more (by simp))
              gi_wp2
              refine hK _ _ (fun _ => hb3) ?_
              clear hK K
              obtain ⟨x3, hx3⟩ : ∃ x3, x3 = (x2.alloc (.cells #[Value.int .i64 0, Value.int .i64 0] 68)) := ⟨_, rfl⟩
              rw [← hx3] at hb3 bx3 HP3
              rw [← hx3]
              clear hx3
              refine ordQ_hv rfl rfl rfl (fun K hK => ?_)
              gi_wp2_with (refine And.intro trivial ?_; gi_at_call 61; refine callsIn_wide.2 ((HPL0.out x3 _ _ HP3.out).mono ?_); rintro e x4 ⟨rfl, hB4⟩)
              have hb4 : Below wr.heap.size wr x4 := hb3.trans (hB4.mono hb3.size)
              have bx4 := bx3.call hB4
              refine hK _ _ (fun _ => hb4) ?_
              clear hK K
              refine ordQ_hv rfl rfl rfl (fun K hK => ?_)
              obtain ⟨bq0, bf0⟩ := bx4.at_ 0 _ rfl
              obtain ⟨bq1, bf1⟩ := bx4.at_ 1 _ rfl
              have hfin := ((bx4.set 0 (I oa)).set 1 (I ob))
              simp only [List.set_cons_zero, List.set_cons_succ] at hfin
              have hbf : Below wr.heap.size wr ((x4.setCell ⟨x2.heap.size, 0, none⟩ (I oa)).setCell ⟨x2.heap.size, 1, none⟩ (I ob)) := (hb4.setCell bl _).setCell bl _
              have hgz := bx4.1
              gi_wp2
              refine hK _ _ (fun h => by cases h) ?_
              clear hK K
              refine ordQ_fin ?_
              go_wp2_with (fail)
              go_meet
              exact ⟨x2.heap.size, rfl, bl, hbf, Lib.hid hfin⟩
          · have hb2 : Below wr.heap.size wr ((x1.alloc (.cells #[Value.int .i64 0, Value.int .i64 0] 68))) := hb1.alloc hb1.size _
            have bx2 : Box ((x1.alloc (.cells #[Value.int .i64 0, Value.int .i64 0] 68))) x1.heap.size [I 0, I 0] := Box.new x1 [I 0, I 0] 68
            have bl : wr.heap.size ≤ x1.heap.size := hb1.size
            have HA2 : Hid (Ints ((x1.alloc (.cells #[Value.int .i64 0, Value.int .i64 0] 68))) ((x1.alloc (.cells #[Value.int .i64 0, Value.int .i64 0] 68))).heap.size _ ((othersL m i j).map fun k : Nat => (k : Int))) := Lib.hid ((HA1.out.below ((Below.refl x1.heap.size x1).alloc (Nat.le_refl _) _)).more (by simp))
            gi_wp2
            refine hK _ _ (fun _ => hb2) ?_
            clear hK K
            obtain ⟨x2, hx2⟩ : ∃ x2, x2 = (x1.alloc (.cells #[Value.int .i64 0, Value.int .i64 0] 68)) := ⟨_, rfl⟩
            rw [← hx2] at hb2 bx2 HA2
            rw [← hx2]
            clear hx2
            refine ordQ_hv rfl rfl rfl (fun K hK => ?_)
            gi_wp2_with (refine And.intro trivial ?_; gi_at_call 59; refine callsIn_wide.2 ((HOF0.out x2 hb2 _ _ HA2.out).mono ?_); rintro e x3 ⟨A3, c3, rfl, hp3, hB3⟩)
            have hb3 : Below wr.heap.size wr x3 := hb2.trans (hB3.mono hb2.size)
            have HP3 := Lib.hid hp3
            have bx3 := bx2.call hB3
            refine hK _ _ (fun _ => hb3) ?_
            clear hK K hp3
            refine ordQ_hv rfl rfl rfl (fun K hK => ?_)
            gi_wp2_with (refine And.intro trivial ?_; gi_at_call 61; refine callsIn_wide.2 ((HPL0.out x3 _ _ HP3.out).mono ?_); rintro e x4 ⟨rfl, hB4⟩)
            have hb4 : Below wr.heap.size wr x4 := hb3.trans (hB4.mono hb3.size)
            have bx4 := bx3.call hB4
            refine hK _ _ (fun _ => hb4) ?_
            clear hK K
            refine ordQ_hv rfl rfl rfl (fun K hK => ?_)
            obtain ⟨bq0, bf0⟩ := bx4.at_ 0 _ rfl
            obtain ⟨bq1, bf1⟩ := bx4.at_ 1 _ rfl
            have hfin := ((bx4.set 0 (I oa)).set 1 (I ob))
            simp only [List.set_cons_zero, List.set_cons_succ] at hfin
            have hbf : Below wr.heap.size wr ((x4.setCell ⟨x1.heap.size, 0, none⟩ (I oa)).setCell ⟨x1.heap.size, 1, none⟩ (I ob)) := (hb4.setCell bl _).setCell bl _
            have hgz := bx4.1
            gi_wp2
            refine hK _ _ (fun h => by cases h) ?_
            clear hK K
            refine ordQ_fin ?_
            go_wp2_with (fail)
            go_meet
            exact ⟨x1.heap.size, rfl, bl, hbf, Lib.hid hfin⟩
        · have hb1 : Below wr.heap.size wr ((wr.alloc (.cells #[Value.int .i64 0, Value.int .i64 0] 68)).drew) := ((Below.refl _ _).alloc (Nat.le_refl _) _).drew
          have bx1 : Box ((wr.alloc (.cells #[Value.int .i64 0, Value.int .i64 0] 68)).drew) wr.heap.size [I 0, I 0] := Box.drew (Box.new wr [I 0, I 0] 68)
          have bl : wr.heap.size ≤ wr.heap.size := Nat.le_refl _
          gi_wp2
          refine hK _ _ (fun _ => hb1) ?_
          clear hK K
          obtain ⟨x1, hx1⟩ : ∃ x1, x1 = (wr.alloc (.cells #[Value.int .i64 0, Value.int .i64 0] 68)).drew := ⟨_, rfl⟩
          rw [← hx1] at hb1 bx1
          rw [← hx1]
          clear hx1
          refine ordQ_hv rfl rfl rfl (fun K hK => ?_)
          refine opIn_append_cut rfl x1 _ _ 26 rfl 3 j0 8 HU.out HJ0.out HJ1.out HJ2.out HJ3.out b off (((kids m i).map fun k : Nat => (k : Int)).take j) j HL1.out rfl (((HI0.out.below hb1).more (hb1.size)).take j) _ _ ((kids m i).length - (j + 1)) (((kids m i).map fun k : Nat => (k : Int)).drop (j + 1)) HL2.out rfl (HO2.out ▸ drop_if ((HI0.out.below hb1).more (hb1.size)) HRC.out) HM1.out HM2.out ?_
          intro A2 c2 x2 hi2 hB2
          have hb2 : Below wr.heap.size wr x2 := hb1.trans (hB2.mono hb1.size)
          have HA2 : Hid (Ints x2 x2.heap.size A2 ((othersL m i j).map fun k : Nat => (k : Int))) := Lib.hid (by rw [show ((othersL m i j).map fun k : Nat => (k : Int)) = ((kids m i).map fun k : Nat => (k : Int)).take j ++ ((kids m i).map fun k : Nat => (k : Int)).drop (j + 1) by simp [othersL, List.map_take, List.map_drop]]; exact hi2)
          have bx2 := bx1.call hB2
          refine hK _ _ (fun _ => hb2) ?_
          clear hK K hi2
          refine ordQ_hv rfl rfl rfl (fun K hK => ?_)
          gi_wp2_with (refine And.intro trivial ?_; gi_at_call 59; refine callsIn_wide.2 ((HOF0.out x2 hb2 _ _ HA2.out).mono ?_); rintro e x3 ⟨A3, c3, rfl, hp3, hB3⟩)
          have hb3 : Below wr.heap.size wr x3 := hb2.trans (hB3.mono hb2.size)
          have HP3 := Lib.hid hp3
          have bx3 := bx2.call hB3
          refine hK _ _ (fun _ => hb3) ?_
          clear hK K hp3
          refine ordQ_hv rfl rfl rfl (fun K hK => ?_)
          gi_wp2_with (refine And.intro trivial ?_; gi_at_call 61; refine callsIn_wide.2 ((HPL0.out x3 _ _ HP3.out).mono ?_); rintro e x4 ⟨rfl, hB4⟩)
          have hb4 : Below wr.heap.size wr x4 := hb3.trans (hB4.mono hb3.size)
          have bx4 := bx3.call hB4
          refine hK _ _ (fun _ => hb4) ?_
          clear hK K
          refine ordQ_hv rfl rfl rfl (fun K hK => ?_)
          obtain ⟨bq0, bf0⟩ := bx4.at_ 0 _ rfl
          obtain ⟨bq1, bf1⟩ := bx4.at_ 1 _ rfl
          have hfin := ((bx4.set 0 (I oa)).set 1 (I ob))
          simp only [List.set_cons_zero, List.set_cons_succ] at hfin
          have hbf : Below wr.heap.size wr ((x4.setCell ⟨wr.heap.size, 0, none⟩ (I oa)).setCell ⟨wr.heap.size, 1, none⟩ (I ob)) := (hb4.setCell bl _).setCell bl _
          have hgz := bx4.1
          gi_wp2
          refine hK _ _ (fun h => by cases h) ?_
          clear hK K
          refine ordQ_fin ?_
          go_wp2_with (fail)
          go_meet
          exact ⟨wr.heap.size, rfl, bl, hbf, Lib.hid hfin⟩
      case rest =>
        obtain ⟨g7, rfl, hg7, hB3, HBX⟩ := hcut
        have hzx := hB3.size
        obtain ⟨bq0, _⟩ := HBX.out.at_ 0 _ rfl
        obtain ⟨bq1, _⟩ := HBX.out.at_ 1 _ rfl
        have hgz := HBX.out.1
        have HMC := Lib.hid (HMR.out.call hB3)
        obtain ⟨_, ⟨y1, y2, y3, y4⟩, _, d1, d2, d3, hql, hsp, d4, d5⟩ := HMC.out
        obtain ⟨p0, p1, p2, p3⟩ := hsp.2 x hxl
        obtain ⟨i0, i1, _, _⟩ := hsp.2 i hil
        have hsz := hsp.1
        rw [← HG1.out] at p0 p1
        rw [← HG2.out] at i0 i1
        have a6 : (0 : Int) ≤ (x : Int) := by omega
        have a7 : (x : Int) < (m.length : Int) := by omega
        have hFC : Frm w.heap.size (fun b => b = S) w wc := hF.then_ hB3 (by omega)
        clear hsp d1 d2 d4 d5 HI0 HL1 HL2 HRC HM1 HM2 HOF0 HPL0 HCEL ho2 HO2 hcb hx0 hadd
        generalize sq.getD x (0, 0) = qx at *
        obtain ⟨qx1, qx2⟩ := qx
        generalize sq.getD i (0, 0) = qi at *
        obtain ⟨qi1, qi2⟩ := qi
        simp only at p0 p1 i0 i1
        have HCV : Hid (cv = (max qx1 (wrap64 (qi1 - ob)), min qx2 (wrap64 (qi2 - oa)))) := Lib.hid (by rw [HCH.out]; rfl)
        go_wp2_with (fail)
        refine (wpIn_wide (n := 9)).1 ?_
        refine wpIn_region_plan (Plan.ons [0, 1, 2, 3, 4, 5, 6, 7, 8, 9, 10, 11, 12, 13, 14, 15, 16, 17, 18, 19, 20, 21, 22, 23, 24, 25] .fin) [0, 1] (fun W' => Below wc.heap.size wc W') [25] rfl (by kernel_rfl) (by kernel_rfl) (fun _ d _ _ _ h => by cases d <;> exact h) (Below.refl _ _).drew ?_
        (refine ordQ_held (.slice (some ⟨S, 0, none⟩) m.length m.length) rfl rfl rfl rfl (fun W' hC' => ?_) (fun K hK => ?_); (focus (obtain e3 := (hC'.cell (p := ⟨sb, 0, none⟩) y3).trans d3; go_simp; try exact ⟨rfl, rfl⟩)); go_simp; refine hK _ ?_; clear hK K)
        (refine ordQ_held (I x) rfl rfl rfl rfl (fun W' hC' => ?_) (fun K hK => ?_); (focus (obtain _ := d3; go_simp; try exact ⟨rfl, rfl⟩)); go_simp; refine hK _ ?_; clear hK K)
        iterate 21 (refine ordQ_li rfl rfl rfl (fun K hK => ?_); go_simp; refine hK _ ?_; clear hK K)
        refine ordQ_hv rfl rfl rfl (fun K hK => ?_)
        gi_wp2_with (refine And.intro trivial ?_; gi_at_call 62; refine callsIn_wide.2 ((and62 _ _ _ _ _).mono ?_); rintro e w5 ⟨rfl, hB5⟩)
        have hb5 : Below wc.heap.size wc w5 := by simpa using (Below.refl _ _).drew.trans hB5
        refine hK _ _ (fun _ => hb5) ?_
        clear hK K hB5
        (refine ordQ_li rfl rfl rfl (fun K hK => ?_); go_simp; refine hK _ ?_; clear hK K)
        have p0' := (hb5.cell (p := ⟨S, x * 2, none⟩) hsz).trans p0
        have p1' := (hb5.cell (p := ⟨S, x * 2 + 1, none⟩) hsz).trans p1
        have p2' := (hb5.frozen (p := ⟨S, x * 2, none⟩) hsz).trans p2
        have p3' := (hb5.frozen (p := ⟨S, x * 2 + 1, none⟩) hsz).trans p3
        have hM5 := Lib.hid ((HMC.out.call hb5).set x hxm (max qx1 (wrap64 (qi1 - ob))) (min qx2 (wrap64 (qi2 - oa))))
        have hF5 : Frm w.heap.size (fun b => b = S) w ((w5.setCell ⟨S, x * 2, none⟩ (I (max qx1 (wrap64 (qi1 - ob))))).setCell ⟨S, x * 2 + 1, none⟩ (I (min qx2 (wrap64 (qi2 - oa))))) :=
          ((hFC.then_ hb5 hFC.size).setCell (.inr rfl) _).setCell (.inr rfl) _
        refine ordQ_hv rfl rfl rfl (fun K hK => ?_)
        gi_wp2
        refine hK _ _ (fun h => by cases h) ?_
        clear hK K
        refine ordQ_fin ?_
        have hM6 : Hid (FlMem ((w5.setCell ⟨S, x * 2, none⟩ (I (max qx1 (wrap64 (qi1 - ob))))).setCell ⟨S, x * 2 + 1, none⟩ (I (min qx2 (wrap64 (qi2 - oa))))) w00.heap.size tb T ofb sb S rb m.length sq1 rr) := Lib.hid (by rw [HUPS.out, HCV.out]; exact hM5.out)
        clear p0 p1 p2 p3 p0' p1' p2' p3' hM5 i0 i1 hb5 hFC hF
        go_wp2_with (fail)
        go_roundw
        case rel => exact ⟨j + 1, by omega, by go_num, hF5, by rw [← HS1.out]; exact hM6⟩
        case measure => simp [intOf]; omega
    · obtain rfl : (kids m i).length = j := by omega
      go_wp2_with (fail)
      exact bodyPost_end (results_none rfl _ _ _) rfl ⟨rfl, HMR.out, hF⟩
end Go.Proofs.YtgdilbilhajgaaaDoor
