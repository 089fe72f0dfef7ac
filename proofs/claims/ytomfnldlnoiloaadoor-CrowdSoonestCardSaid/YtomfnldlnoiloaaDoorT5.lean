/- See, of the program. -/
import Derived.Test.YtomfnldlnoiloaaDoorT4
import Derived.Test.YtomfnldlnoiloaaDoorV2
import Derived.Test.YtomfnldlnoiloaaDoorS13
import Derived.Deep.CutRange
import Derived.Deep.DeepCutAuto
namespace Go.Proofs.YtomfnldlnoiloaaDoor
set_option linter.unusedVariables false
set_option linter.unusedSimpArgs false
open Go Go.RowKit Go.Maps

/-- What lies in memory while See goes on. -/
structure SeeW (w wr : World) (v : Vis) (A1 A2 A3 : Option Addr) (q1 q2 q3 db tb mb : Nat) (th : Nat → Int) (com : Nat → Nat → Int) (pv : Int) : Prop where
  bl : Below w.heap.size w wr
  bx : Box wr w.heap.size [.slice A1 v.rm.length q1, .slice A2 v.tr.length q2, .slice A3 v.ar.length q3]
  pe : Box wr (w.heap.size + 1) [I pv]
  er : Box wr (w.heap.size + 1 + 1) [I 0]
  day : DayAt wr (w.heap.size + 1 + 1 + 1) v A1 A2 A3 q1 q2 q3 db tb mb (thL v.rm.length th) com
theorem SeeW.size {w wr : World} {v : Vis} {A1 A2 A3 : Option Addr} {q1 q2 q3 db tb mb : Nat} {th : Nat → Int} {com : Nat → Nat → Int} {pv : Int} (h : SeeW w wr v A1 A2 A3 q1 q2 q3 db tb mb th com pv) : w.heap.size + 1 + 1 + 1 ≤ wr.heap.size := by
  have := h.day.lo.1
  have := h.day.box.1
  omega
/-- After a step that turns the day alone. -/
theorem SeeW.frm {w wr w' : World} {v : Vis} {A1 A2 A3 : Option Addr} {q1 q2 q3 db tb mb : Nat} {th th' : Nat → Int} {com com' : Nat → Nat → Int} {pv : Int} (h : SeeW w wr v A1 A2 A3 q1 q2 q3 db tb mb th com pv) {S : Nat → Prop} (hF : Frm wr.heap.size S wr w') (hS : ∀ b, S b → w.heap.size + 1 + 1 + 1 ≤ b)
    (hD : DayAt w' (w.heap.size + 1 + 1 + 1) v A1 A2 A3 q1 q2 q3 db tb mb (thL v.rm.length th') com') : SeeW w w' v A1 A2 A3 q1 q2 q3 db tb mb th' com' pv := by
  have hz := h.size
  exact ⟨h.bl.trans (hF.below (by omega) (fun b hb hs => by have := hS b hs; omega)), h.bx.frm hF (by omega) (fun hs => by have := hS _ hs; omega), h.pe.frm hF (by omega) (fun hs => by have := hS _ hs; omega), h.er.frm hF (by omega) (fun hs => by have := hS _ hs; omega), hD⟩
theorem SeeW.below {w wr w' : World} {v : Vis} {A1 A2 A3 : Option Addr} {q1 q2 q3 db tb mb : Nat} {th : Nat → Int} {com : Nat → Nat → Int} {pv : Int} (h : SeeW w wr v A1 A2 A3 q1 q2 q3 db tb mb th com pv) (hB : Below wr.heap.size wr w') : SeeW w w' v A1 A2 A3 q1 q2 q3 db tb mb th com pv :=
  h.frm (S := fun _ => False) (Frm.of_below hB (Nat.le_refl _)) (fun _ h => h.elim) (h.day.below hB)
theorem wp_norm {P : Program} {s : Code} {Q : Exit → Act → World → Prop} {a : Act} {w : World} (h : s.wp P (fun e a' w' => e = .normal ∧ Q .normal a' w') a w) : s.wp P Q a w :=
  wp_mono h fun e a' w' h => by obtain ⟨rfl, h⟩ := h; exact h
/-- How many set out in this minute, on each trail. -/
def OutAt (W : World) (ob : Nat) (out : Nat → Int) : Prop := ∃ N f, MapAt Tryd.prog 3 W ob N f ∧ ∀ j : Nat, j ≤ 1000 → (f (I j)).getD (I 0) = I (out j)
/-- The way out by a panic. -/
theorem see_door {R : Ending → World → Prop} {tmps : Array Value} {W : World} {s k : Nat} {x y c : Int} (h8 : tmps[8]? = some (.pointer (some ⟨s + 1, 0, none⟩))) (h9 : tmps[9]? = some (I k)) (h10 : tmps[10]? = some (.pointer (some ⟨s + 1 + 1, 0, none⟩)))
    (hp : Box W (s + 1) [I x]) (he : Box W (s + 1 + 1) [I y]) (hR : ∀ W', Frm W.heap.size (fun b => b = s + 1 ∨ b = s + 1 + 1) W W' → R (.returned (.tuple #[I 0, I k, I c])) W') :
    bodyPostD Tryd.prog Tryd.f14 R (.panic [{ v := misV c, recovered := false }]) { tmps := tmps, defers := [{ target := .fn (.func 31) #[.pointer (some ⟨s + 1, 0, none⟩), .pointer (some ⟨s + 1 + 1, 0, none⟩)], args := #[] }] } W := by
  refine leaves_cons (f := 31) (args := #[.pointer (some ⟨s + 1, 0, none⟩), .pointer (some ⟨s + 1 + 1, 0, none⟩)]) (by simp) (by simp [go_sem]) ?_
  obtain ⟨c1, z1⟩ := hp.at_ 0 _ rfl
  obtain ⟨c2, z2⟩ := he.at_ 0 _ rfl
  refine (catch_panicking (s + 1) (s + 1 + 1) x y c [] W c1 z1 c2 z2 (by omega)).mono ?_
  rintro e u' w'' ⟨rfl, rfl, hF, e1, e2⟩
  have h := hR w'' hF
  simp [Leaves, settle, results, Tryd.results14, go_sem, h8, h9, h10, e1, e2]
  exact h
/-- What See returns, as an ending. -/
def SeeEnds (w : World) (v : Vis) (l : List Mv) (p m : Int) (e : Ending) (w' : World) : Prop := e = .returned (.tuple #[I (seeV v l p m).1, I (seeV v l p m).2.1, I (seeV v l p m).2.2]) ∧ Below w.heap.size w w'
set_option maxRecDepth 100000 in
set_option maxHeartbeats 8000000 in
theorem see14 (v : Vis) (h64 : Vis64 v) (A1 A2 A3 AL : Option Addr) (q1 q2 q3 ql : Nat) (l : List Mv) (p m : Int) (w : World) (hI : VisAt w w.heap.size v A1 A2 A3) (hL : Threes w w.heap.size AL l) :
    Calls Tryd.prog 14 #[visV v A1 A2 A3 q1 q2 q3, .slice AL l.length ql, I p, I m] w (SeeEnds w v l p m) := by
  obtain ⟨w2, hw2⟩ : ∃ w2, w.alloc (.cells #[.slice A1 v.rm.length q1, .slice A2 v.tr.length q2, .slice A3 v.ar.length q3] 26) = w2 := ⟨_, rfl⟩
  obtain ⟨w3, hw3⟩ : ∃ w3, (w2.alloc (.cells #[I 0] 3)).alloc (.cells #[I 0] 30) = w3 := ⟨_, rfl⟩
  have hz2 : w2.heap.size = w.heap.size + 1 := by rw [← hw2]; simp
  have hz3 : w3.heap.size = w.heap.size + 1 + 1 + 1 := by rw [← hw3]; simp [hz2]
  have hB2 : Below w.heap.size w w2 := by rw [← hw2]; (repeat' (first | assumption | exact Below.refl _ _ | refine Below.drew ?_ | refine below_drewN ?_ _ | refine Below.setCell ?_ (by first | omega | (simp; done) | (simp; omega)) _ | refine Below.alloc ?_ (by first | omega | (simp; done) | (simp; omega)) _ | refine Below.trans ?_ (Below.mono (by assumption) (by first | omega | (simp; done) | (simp; omega)))))
  have hB3 : Below w.heap.size w w3 := by rw [← hw3]; (repeat' (first | assumption | exact Below.refl _ _ | refine Below.drew ?_ | refine below_drewN ?_ _ | refine Below.setCell ?_ (by first | omega | (simp; done) | (simp; omega)) _ | refine Below.alloc ?_ (by first | omega | (simp; done) | (simp; omega)) _ | refine Below.trans ?_ (Below.mono (by assumption) (by first | omega | (simp; done) | (simp; omega)))))
  have b1 : Box w3 w.heap.size [.slice A1 v.rm.length q1, .slice A2 v.tr.length q2, .slice A3 v.ar.length q3] := by rw [← hw3, ← hw2]; exact ((Box.new w [.slice A1 v.rm.length q1, .slice A2 v.tr.length q2, .slice A3 v.ar.length q3] 26).alloc _).alloc _
  have b2 : Box w3 (w.heap.size + 1) [I 0] := by rw [← hw3, ← hz2]; exact (Box.new w2 [I 0] 3).alloc _
  have b3 : Box w3 (w.heap.size + 1 + 1) [I 0] := by
    have h := Box.new (w2.alloc (.cells #[I 0] 3)) [I 0] 30
    rw [World.size_alloc, hz2] at h
    rw [← hw3]; exact h
  have H30 := Lib.hid (errorOf30 v h64 A1 A2 A3 q1 q2 q3 p m w3 ((hI.below hB3).more hB3.size))
  have HBX : Hid (∀ W, Below w3.heap.size w3 W → (W.cell? ⟨w.heap.size, 0, none⟩ = some (.slice A1 v.rm.length q1) ∧ W.cell? ⟨w.heap.size, 1, none⟩ = some (.slice A2 v.tr.length q2) ∧ W.cell? ⟨w.heap.size, 2, none⟩ = some (.slice A3 v.ar.length q3)) ∧ (Box W (w.heap.size + 1) [I 0] ∧ Box W (w.heap.size + 1 + 1) [I 0]) ∧ Below w.heap.size w W) := Lib.hid fun W h =>
    ⟨⟨((b1.call h).at_ 0 _ rfl).1, ((b1.call h).at_ 1 _ rfl).1, ((b1.call h).at_ 2 _ rfl).1⟩, ⟨b2.call h, b3.call h⟩, hB3.trans (h.mono hB3.size)⟩
  obtain ⟨⟨x0, x1, x2⟩, _⟩ := HBX.out w3 (Below.refl _ _)
  have HI := Lib.hid hI
  have HL := Lib.hid hL
  have HB1 := Lib.hid b1
  clear b1 b2 b3 hB2 hB3 hI hL h64
  have hmf : ∀ (fn : Fn) (first cap : Array Value) (w : World), (Instr.makeFunc fn first cap).run Tryd.prog w = .ok (.func fn first cap) w := fun _ _ _ _ => rfl
  by_cases he : errN v p m = 0
  · obtain ⟨hv, hp, hm0, hm60⟩ := err_zero he
    have HV := Lib.hid hv
    have hn := hv.n
    rw [he] at H30
    by_cases hl : l.length ≤ 256
    · obtain ⟨pn, rfl⟩ : ∃ n : Nat, p = n := ⟨p.toNat, by omega⟩
      obtain ⟨mn, rfl⟩ : ∃ n : Nat, m = n := ⟨m.toNat, by omega⟩
      have hpn : pn < v.n := by omega
      have hlb : ¬ (256 : Int) < (l.length : Int) := by omega
      have H32 : Hid (∀ W, Below w3.heap.size w3 W → Calls Tryd.prog 32 #[visV v A1 A2 A3 q1 q2 q3] W fun e w' => ∃ db tb mb, e = .returned (ptr db) ∧ Below W.heap.size W w' ∧ DayAt w' W.heap.size v A1 A2 A3 q1 q2 q3 db tb mb (List.replicate v.rm.length 0) (arrive v)) := Lib.hid fun W h =>
        newDay32 v hv A1 A2 A3 q1 q2 q3 W ((HI.out.below (HBX.out W h).2.2).more (HBX.out W h).2.2.size)
      have HE : Hid (∀ k : Nat, seeF v l = (k, 0) → ∀ W, Below w.heap.size w W → SeeEnds w v l pn mn (.returned (.tuple #[I (pvF v l pn mn 61 k), I k, I 0])) W) := Lib.hid fun k hs W h => by
        unfold SeeEnds; rw [seeV_ok he hl hs (by omega)]; exact ⟨rfl, h⟩
      have HF : Hid (∀ (k : Nat) (c : Int), seeF v l = (k, c) → c ≠ 0 → ∀ W, Below w.heap.size w W → SeeEnds w v l pn mn (.returned (.tuple #[I 0, I k, I c])) W) := Lib.hid fun k c hs hc W h => by
        unfold SeeEnds; rw [seeV_fault he hl hs hc]; exact ⟨rfl, h⟩
      have HW0 : Hid (∀ W db tb mb, Below w3.heap.size w3 W → DayAt W (w.heap.size + 1 + 1 + 1) v A1 A2 A3 q1 q2 q3 db tb mb (List.replicate v.rm.length 0) (arrive v) → SeeW w W v A1 A2 A3 q1 q2 q3 db tb mb (fun q => thM v (l.take 0) q 0) (comA v (l.take 0)) (pvF v l pn mn 0 0)) := Lib.hid fun W db tb mb hB hD => by
        refine ⟨(HBX.out W hB).2.2, HB1.out.call hB, (HBX.out W hB).2.1.1, (HBX.out W hB).2.1.2, hD.box, ?_, by simp [thL], hD.ne, ?_, hD.lo⟩
        · have := hD.th
          have e : thL v.rm.length (fun q => thM v (l.take 0) q 0) = List.replicate v.rm.length 0 := by simp only [thL, thM]; exact List.map_const'.trans (by rw [List.length_range])
          rw [e]; exact this
        · obtain ⟨N, f, m1, m2⟩ := hD.map
          exact ⟨N, f, m1, m2.congr fun a b => by simp [comA, comM, lsum]⟩
      generalize SeeEnds w v l pn mn = R at *
      clear he hp hm0
      go_enter_defers Tryd.func14, Tryd.ntmps14
      go_wp2_with (first
        | (go_at_call 30; refine H30.out.mono ?_; rintro e w4 ⟨rfl, hb4⟩; have H324 := Lib.hid (H32.out _ hb4); have HB4 := Lib.hid hb4; obtain ⟨⟨y0, y1, y2⟩, _⟩ := HBX.out w4 hb4; clear hb4)
        | (go_at_call 32; refine H324.out.mono ?_; rintro e w5 ⟨db, tb, mb, rfl, hb5, hD5⟩; have HW5 := Lib.hid (HW0.out w5 db tb mb (below_call HB4.out hb5) ⟨hD5.box, hD5.th, hD5.len, hD5.ne, hD5.map, by have := hD5.lo; have := HB4.out.size; omega⟩); clear hb5 hD5 y0 y1 y2)
        | fail)
      clear H30 H32 H324 HW0 HB1
      go_loopw [9, 30] (fun i9 i30 wr => ∃ k now : Nat, i9 = I k ∧ i30 = I now ∧ now ≤ 61 ∧ Hid (SeeP v l now k now) ∧ Hid (SeeW w wr v A1 A2 A3 q1 q2 q3 db tb mb (fun q => thM v (l.take k) q now) (comA v (l.take k)) (pvF v l pn mn now k))) (fun _ i _ => 61 - (intOf i).toNat)
      case atStart => exact ⟨0, 0, rfl, rfl, by omega, Lib.hid (SeeP.start v l), HW5⟩
      case round =>
        obtain ⟨k, now, rfl, rfl, hnow, HP, HW⟩ := hrel
        clear HW5 HB4
        by_cases hlt : now < 61
        · have hwk : IntKind.i64.wrap ((now : Int) + 1) = (now : Int) + 1 := IntWalk.i64_in _ (by omega)
          have htop := HP.out.top HV.out hl
          obtain ⟨hP1, hth1⟩ := HP.out.begun HV.out
          have HP1 := Lib.hid hP1
          have HT1 := Lib.hid hth1
          have hd := HW.out.day
          have hbx := HW.out.bl
          have H33 : Hid (Calls Tryd.prog 33 #[ptr db, I now] wr fun e w' => e = .returned (.tuple #[]) ∧ SeeW w w' v A1 A2 A3 q1 q2 q3 db tb mb (fun q => thM v (l.take k) q (now + 1)) (comA v (l.take k)) (pvF v l pn mn now k)) := Lib.hid (by
            refine (begin33 v HV.out A1 A2 A3 q1 q2 q3 (w.heap.size + 1 + 1 + 1) db tb mb now (by omega) _ _ wr ((HI.out.below hbx).more (by omega)) hd htop.1 (fun q _ => htop.2.1 q now)).mono ?_
            rintro e w' ⟨rfl, hF, hD⟩
            refine ⟨rfl, HW.out.frm hF (fun b hb => by subst hb; exact hd.lo.2.1) (hD.reth (thL_congr fun q _ => ?_))⟩
            rw [hth1]; rfl)
          have HO := Lib.hid fun j => outM_new HP.out.made (Nat.le_refl now) j
          clear hP1 hth1 htop hd hbx HP HW
          have n61 : (now : Int) < 61 := by omega
          go_upto_if 38 with (first | (go_at_call 33; refine H33.out.mono ?_; rintro e w6 ⟨rfl, hW6⟩; have HW6 := Lib.hid hW6; clear hW6) | fail)
          go_cut [] from 38 to 51 (fun wx => Hid (SeeW w wx v A1 A2 A3 q1 q2 q3 db tb mb (fun q => thM v (l.take k) q (now + 1)) (comA v (l.take k)) (pvF v l pn mn (now + 1) k)))
          case first =>
            by_cases e : now = mn
            · have eb : ((now : Int) == (mn : Int)) = true := by simp [e]
              have hpv : pvF v l pn mn (now + 1) k = min (thM v (l.take k) pn (now + 1)) (v.room pn) := by
                unfold pvF; rw [if_pos (by omega), HT1.out, e]
              obtain ⟨c0, _⟩ := HW6.out.bx.at_ 0 _ rfl
              obtain ⟨c3, _⟩ := HW6.out.day.box.at_ 3 _ rfl
              obtain ⟨ct, _⟩ := HW6.out.day.th.at_ pn _ (thL_at _ (show pn < v.rm.length from hpn))
              obtain ⟨cp, cpz⟩ := HW6.out.pe.at_ 0 _ rfl
              obtain ⟨rb, ro, hA1, hrb, hc⟩ := (HI.out.below HW6.out.bl).rm (by have : pn < v.rm.length := hpn; omega)
              subst hA1
              have hpn' : pn < v.rm.length := hpn
              have rc := hc pn hpn'
              have hro : v.rm[pn] = v.room pn := by simp [Vis.room, List.getD_eq_getElem?_getD, hpn']
              rw [hro] at rc
              have p0 : (0 : Int) ≤ (pn : Int) := by omega
              have p1 : (pn : Int) < (v.rm.length : Int) := by have : pn < v.rm.length := hpn; omega
              have HST : Hid (∀ x : Int, x = min (thM v (l.take k) pn (now + 1)) (v.room pn) → SeeW w (w6.setCell ⟨w.heap.size + 1, 0, none⟩ (I x)) v (some ⟨rb, ro, none⟩) A2 A3 q1 q2 q3 db tb mb (fun q => thM v (l.take k) q (now + 1)) (comA v (l.take k)) (pvF v l pn mn (now + 1) k)) := Lib.hid fun x hx => by
                have h := HW6.out
                have hd := h.day
                have hlo := hd.lo
                obtain ⟨N, f, m1, m2⟩ := hd.map
                refine ⟨h.bl.setCell (p := ⟨w.heap.size + 1, 0, none⟩) (by dsimp only; omega) _, h.bx.far (p := ⟨w.heap.size + 1, 0, none⟩) (by dsimp only; omega) _, ?_, h.er.far (p := ⟨w.heap.size + 1, 0, none⟩) (by dsimp only; omega) _, hd.box.far (p := ⟨w.heap.size + 1, 0, none⟩) (by dsimp only; omega) _, hd.th.far (p := ⟨w.heap.size + 1, 0, none⟩) (by dsimp only; omega) _, hd.len, hd.ne, ⟨N, f, m1.setCell (p := ⟨w.heap.size + 1, 0, none⟩) (by dsimp only; omega) _, m2⟩, hlo⟩
                rw [hpv, ← hx]
                exact h.pe.set 0 (I x)
              clear HW6 hc hpv hro
              obtain ⟨ta, hta⟩ : ∃ z, thM v (l.take k) pn (now + 1) = z := ⟨_, rfl⟩
              obtain ⟨ra, hra⟩ : ∃ z, v.room pn = z := ⟨_, rfl⟩
              rw [hta] at ct HST
              rw [hra] at rc HST
              clear hta hra e
              go_wp2_with (fail)
              refine wp_norm ?_
              refine (wpIn_wide (n := 9)).1 ?_
              refine wpIn_region_plan (Plan.ons [0, 1, 2, 3, 4, 5, 6, 7, 8, 9, 10, 11, 12, 13] .fin) [] (fun _ => True) [] rfl (by kernel_rfl) (by kernel_rfl) (fun _ _ _ _ _ h => by cases h.1) trivial ?_
              (refine ordQ_li rfl rfl rfl (fun K hK => ?_); go_simp; refine hK _ ?_; clear hK K)
              (refine ordQ_li rfl rfl rfl (fun K hK => ?_); go_simp; refine hK _ ?_; clear hK K)
              (refine ordQ_li rfl rfl rfl (fun K hK => ?_); go_simp; refine hK _ ?_; clear hK K)
              (refine ordQ_li rfl rfl rfl (fun K hK => ?_); go_simp; refine hK _ ?_; clear hK K)
              (refine ordQ_li rfl rfl rfl (fun K hK => ?_); go_simp; refine hK _ ?_; clear hK K)
              (refine ordQ_li rfl rfl rfl (fun K hK => ?_); go_simp; refine hK _ ?_; clear hK K)
              (refine ordQ_li rfl rfl rfl (fun K hK => ?_); go_simp; refine hK _ ?_; clear hK K)
              (refine ordQ_li rfl rfl rfl (fun K hK => ?_); go_simp; refine hK _ ?_; clear hK K)
              (refine ordQ_li rfl rfl rfl (fun K hK => ?_); go_simp; refine hK _ ?_; clear hK K)
              (refine ordQ_li rfl rfl rfl (fun K hK => ?_); go_simp; refine hK _ ?_; clear hK K)
              (refine ordQ_li rfl rfl rfl (fun K hK => ?_); go_simp; refine hK _ ?_; clear hK K)
              (refine ordQ_li rfl rfl rfl (fun K hK => ?_); go_simp; refine hK _ ?_; clear hK K)
              (refine ordQ_li rfl rfl rfl (fun K hK => ?_); go_simp; refine hK _ ?_; clear hK K)
              refine ordQ_hv rfl rfl rfl (fun K hK => ?_)
              gi_wp2
              refine hK _ _ (fun _ => trivial) ?_
              clear hK K
              refine ordQ_fin ⟨rfl, ?_⟩
              have HN := Lib.hid (HST.out _ rfl)
              clear HST
              go_wp2_with (fail)
              go_meet
              exact Lib.hid (HN.out.below (Below.refl _ _).drew)
            · have eb : ((now : Int) == (mn : Int)) = false := by simp; omega
              have hpv : pvF v l pn mn (now + 1) k = pvF v l pn mn now k := by
                unfold pvF
                by_cases h : mn < now
                · rw [if_pos h, if_pos (by omega)]
                · rw [if_neg h, if_neg (by omega)]
              go_wp2_with (fail)
              go_meet
              rw [hpv]
              exact HW6
          case rest =>
            have HW7 := hcut
            clear hcut
            have hblk : db < wc.heap.size ∧ tb < wc.heap.size ∧ mb < wc.heap.size := ⟨HW7.out.day.box.1, HW7.out.day.th.1, by obtain ⟨N, f, m1, _⟩ := HW7.out.day.map; exact m1.lt⟩
            have hzc := HW7.out.size
            have hmk3 := fun W => run_makeMap (P := Tryd.prog) 69 W
            have HI8 : Hid (SeeW w (wc.alloc (.map #[] 0)) v A1 A2 A3 q1 q2 q3 db tb mb (fun q => thM v (l.take k) q (now + 1)) (comA v (l.take k)) (pvF v l pn mn (now + 1) k) ∧ OutAt (wc.alloc (.map #[] 0)) wc.heap.size (outM (l.take k) now)) := Lib.hid ⟨HW7.out.below (by (repeat' (first | assumption | exact Below.refl _ _ | refine Below.drew ?_ | refine below_drewN ?_ _ | refine Below.setCell ?_ (by first | omega | (simp; done) | (simp; omega)) _ | refine Below.alloc ?_ (by first | omega | (simp; done) | (simp; omega)) _ | refine Below.trans ?_ (Below.mono (by assumption) (by first | omega | (simp; done) | (simp; omega)))))), 0, _, MapAt.new wc _ _, fun j _ => by rw [HO.out]; rfl⟩
            clear HW7 HO HT1 H33
            go_wp2_with (fail)
            go_loopw [9] (fun i9 wr => ∃ k2 : Nat, i9 = I k2 ∧ Hid (SeeP v l now k2 (now + 1)) ∧ Hid (SeeW w wr v A1 A2 A3 q1 q2 q3 db tb mb (fun q => thM v (l.take k2) q (now + 1)) (comA v (l.take k2)) (pvF v l pn mn (now + 1) k2) ∧ OutAt wr wc.heap.size (outM (l.take k2) now))) (fun i _ => l.length - (intOf i).toNat)
            case atStart => exact ⟨k, rfl, HP1, HI8⟩
            case round =>
              obtain ⟨k2, rfl, HP2, HW2⟩ := hrel
              clear HI8 HP1
              by_cases hk2 : k2 < l.length
              · obtain ⟨lb, lf, hAL, hlbb, hlc⟩ := (HL.out.below HW2.out.1.bl) (by omega)
                subst hAL
                obtain ⟨m0, m1, m2⟩ := hlc k2 hk2
                clear hlc
                have k2a : (k2 : Int) < (l.length : Int) := by omega
                have k20 : (0 : Int) ≤ (k2 : Int) := by omega
                have hwk2 : IntKind.i64.wrap ((k2 : Int) + 1) = (k2 : Int) + 1 := IntWalk.i64_in _ (by omega)
                have hwT : IntKind.i64.wrap ((v.tr.length : Int) - 1) = (v.tr.length : Int) - 1 := IntWalk.i64_in _ (by have := HV.out.tl; omega)
                have HX : Hid (∀ W, Below wr.heap.size wr W → W.cell? ⟨w.heap.size, 1, none⟩ = some (.slice A2 v.tr.length q2)) := Lib.hid fun W h => ((HW2.out.1.bx.call h).at_ 1 _ rfl).1
                have hzz : w.heap.size < wr.heap.size := by have := HW2.out.1.size; omega
                have xx2 := HX.out wr (Below.refl _ _)
                have HFA : Hid (∀ c : Int, chkM v (l.take k2) now l[k2] = c → c ≠ 0 → c ≠ -1 → ∀ W, SeeW w W v A1 A2 A3 q1 q2 q3 db tb mb (fun q => thM v (l.take k2) q (now + 1)) (comA v (l.take k2)) (pvF v l pn mn (now + 1) k2) → ∀ tmps : Array Value, tmps[8]? = some (.pointer (some ⟨w.heap.size + 1, 0, none⟩)) → tmps[9]? = some (I k2) → tmps[10]? = some (.pointer (some ⟨w.heap.size + 1 + 1, 0, none⟩)) → bodyPostD Tryd.prog Tryd.f14 R (.panic [{ v := misV c, recovered := false }]) { tmps := tmps, defers := [{ target := .fn (.func 31) #[.pointer (some ⟨w.heap.size + 1, 0, none⟩), .pointer (some ⟨w.heap.size + 1 + 1, 0, none⟩)], args := #[] }] } W) := Lib.hid fun c hc h0 h1 W hW tmps h8 h9 h10 => by
                  refine see_door h8 h9 h10 hW.pe hW.er fun W' hF => HF.out k2 c (HP2.out.at_.fault hlt hk2 hc h0 h1) h0 W' (hW.bl.trans (hF.below (by have := hW.size; omega) (fun b hb hs => by omega)))
                obtain ⟨t0, ht0⟩ : ∃ z, l[k2].1 = z := ⟨_, rfl⟩
                obtain ⟨t1, ht1⟩ : ∃ z, l[k2].2.1 = z := ⟨_, rfl⟩
                obtain ⟨t2, ht2⟩ : ∃ z, l[k2].2.2 = z := ⟨_, rfl⟩
                rw [ht0] at m0
                rw [ht1] at m1
                rw [ht2] at m2
                obtain ⟨s1, hs1⟩ : ∃ s, inB t1 0 ((v.tr.length : Int) - 1) = s := ⟨_, rfl⟩
                obtain ⟨s2, hs2⟩ : ∃ s, inB t2 1 1000 = s := ⟨_, rfl⟩
                obtain ⟨s3, hs3⟩ : ∃ s, inB t0 0 60 = s := ⟨_, rfl⟩
                have H35a : Hid (∀ W, Calls Tryd.prog 35 #[I t1, I 0, I ((v.tr.length : Int) - 1)] W fun e w' => e = .returned (.bool s1) ∧ W = w') := Lib.hid fun W => by rw [← hs1]; exact within35 _ _ _ _
                have H35b : Hid (∀ W, Calls Tryd.prog 35 #[I t2, I 1, I 1000] W fun e w' => e = .returned (.bool s2) ∧ W = w') := Lib.hid fun W => by rw [← hs2]; exact within35 _ _ _ _
                have H36 : Hid (∀ W, Calls Tryd.prog 36 #[I t0] W fun e w' => e = .returned (.bool s3) ∧ W = w') := Lib.hid fun W => by rw [← hs3]; exact isMinute36 _ _
                have HMO : Hid (mvOk v l[k2] = (s1 && s2 && s3)) := Lib.hid (by unfold mvOk; rw [ht0, ht1, ht2, hs1, hs2, hs3])
                cases s1
                · have HFB := Lib.hid (HFA.out 1 (by unfold chkM; rw [HMO.out]; rfl) (by decide) (by decide))
                  clear HFA HP2
                  go_wp2_with (first
                      | (go_at_call 35; refine (within35 _ _ _ _).mono ?_; rintro e w8 ⟨rfl, rfl⟩)
                      | (go_at_call 36; refine (H36.out _).mono ?_; rintro e w8 ⟨rfl, rfl⟩)
                      | (go_at_call 34; refine (need_no 1 _).mono ?_; rintro e w9 ⟨rfl, rfl⟩)
                      | fail)
                  refine HFB.out _ (HW2.out.1.below ?_) _ ?_ ?_ ?_
                  · (repeat' (first | assumption | exact Below.refl _ _ | refine Below.drew ?_ | refine below_drewN ?_ _ | refine Below.setCell ?_ (by first | omega | (simp; done) | (simp; omega)) _ | refine Below.alloc ?_ (by first | omega | (simp; done) | (simp; omega)) _ | refine Below.trans ?_ (Below.mono (by assumption) (by first | omega | (simp; done) | (simp; omega)))))
                  · rfl
                  · rfl
                  · rfl
                cases s2
                · have HFB := Lib.hid (HFA.out 1 (by unfold chkM; rw [HMO.out]; rfl) (by decide) (by decide))
                  clear HFA HP2
                  go_wp2_with (first
                      | (go_at_call 35; refine (within35 _ _ _ _).mono ?_; rintro e w8 ⟨rfl, rfl⟩)
                      | (go_at_call 36; refine (H36.out _).mono ?_; rintro e w8 ⟨rfl, rfl⟩)
                      | (go_at_call 34; refine (need_no 1 _).mono ?_; rintro e w9 ⟨rfl, rfl⟩)
                      | fail)
                  refine HFB.out _ (HW2.out.1.below ?_) _ ?_ ?_ ?_
                  · (repeat' (first | assumption | exact Below.refl _ _ | refine Below.drew ?_ | refine below_drewN ?_ _ | refine Below.setCell ?_ (by first | omega | (simp; done) | (simp; omega)) _ | refine Below.alloc ?_ (by first | omega | (simp; done) | (simp; omega)) _ | refine Below.trans ?_ (Below.mono (by assumption) (by first | omega | (simp; done) | (simp; omega)))))
                  · rfl
                  · rfl
                  · rfl
                cases s3
                · have HFB := Lib.hid (HFA.out 1 (by unfold chkM; rw [HMO.out]; rfl) (by decide) (by decide))
                  clear HFA HP2
                  go_wp2_with (first
                      | (go_at_call 35; refine (within35 _ _ _ _).mono ?_; rintro e w8 ⟨rfl, rfl⟩)
                      | (go_at_call 36; refine (H36.out _).mono ?_; rintro e w8 ⟨rfl, rfl⟩)
                      | (go_at_call 34; refine (need_no 1 _).mono ?_; rintro e w9 ⟨rfl, rfl⟩)
                      | fail)
                  refine HFB.out _ (HW2.out.1.below ?_) _ ?_ ?_ ?_
                  · (repeat' (first | assumption | exact Below.refl _ _ | refine Below.drew ?_ | refine below_drewN ?_ _ | refine Below.setCell ?_ (by first | omega | (simp; done) | (simp; omega)) _ | refine Below.alloc ?_ (by first | omega | (simp; done) | (simp; omega)) _ | refine Below.trans ?_ (Below.mono (by assumption) (by first | omega | (simp; done) | (simp; omega)))))
                  · rfl
                  · rfl
                  · rfl
                have HOK := Lib.hid (mvOk_iff.1 HMO.out)
                by_cases h7 : t0 < (now : Int)
                · have h7b : ¬ (now : Int) ≤ t0 := by omega
                  have h7c : decide ((now : Int) ≤ t0) = false := by simp [h7b]
                  have HFB := Lib.hid (HFA.out 7 (by unfold chkM; rw [HMO.out, ht0]; simp [h7]) (by decide) (by decide))
                  clear HFA HP2
                  go_wp2_with (first
                    | (go_at_call 35; refine (within35 _ _ _ _).mono ?_; rintro e w8 ⟨rfl, rfl⟩)
                    | (go_at_call 36; refine (H36.out _).mono ?_; rintro e w8 ⟨rfl, rfl⟩)
                    | (go_at_call 34; refine (need_yes 1 _).mono ?_; rintro e w9 ⟨rfl, rfl⟩)
                    | (go_at_call 34; refine (need_no 7 _).mono ?_; rintro e w9 ⟨rfl, rfl⟩)
                    | fail)
                  refine HFB.out _ (HW2.out.1.below ?_) _ ?_ ?_ ?_
                  · (repeat' (first | assumption | exact Below.refl _ _ | refine Below.drew ?_ | refine below_drewN ?_ _ | refine Below.setCell ?_ (by first | omega | (simp; done) | (simp; omega)) _ | refine Below.alloc ?_ (by first | omega | (simp; done) | (simp; omega)) _ | refine Below.trans ?_ (Below.mono (by assumption) (by first | omega | (simp; done) | (simp; omega)))))
                  · rfl
                  · rfl
                  · rfl
                have h7b : (now : Int) ≤ t0 := by omega
                have h7c : decide ((now : Int) ≤ t0) = true := by simp [h7b]
                by_cases h8 : (now : Int) < t0
                · have h8c : decide ((now : Int) < t0) = true := by simp [h8]
                  have HP3 := Lib.hid (HP2.out.later hlt hk2 (by unfold chkM; rw [HMO.out, ht0]; simp [h7, h8]))
                  clear HFA HP2
                  have HW3 : Hid (∀ W, Below wr.heap.size wr W → SeeW w W v A1 A2 A3 q1 q2 q3 db tb mb (fun q => thM v (l.take k2) q (now + 1)) (comA v (l.take k2)) (pvF v l pn mn (now + 1) k2)) := Lib.hid fun W h => HW2.out.1.below h
                  go_wp2_with (first
                    | (go_at_call 35; refine (within35 _ _ _ _).mono ?_; rintro e w8 ⟨rfl, rfl⟩)
                    | (go_at_call 36; refine (H36.out _).mono ?_; rintro e w8 ⟨rfl, rfl⟩)
                    | (go_at_call 34; refine (need_yes 1 _).mono ?_; rintro e w9 ⟨rfl, rfl⟩)
                    | (go_at_call 34; refine (need_yes 7 _).mono ?_; rintro e w9 ⟨rfl, rfl⟩)
                    | fail)
                  go_roundw
                  case rel => exact ⟨k2, now + 1, rfl, by go_num, by omega, HP3, Lib.hid (HW3.out _ (by (repeat' (first | assumption | exact Below.refl _ _ | refine Below.drew ?_ | refine below_drewN ?_ _ | refine Below.setCell ?_ (by first | omega | (simp; done) | (simp; omega)) _ | refine Below.alloc ?_ (by first | omega | (simp; done) | (simp; omega)) _ | refine Below.trans ?_ (Below.mono (by assumption) (by first | omega | (simp; done) | (simp; omega)))))))⟩
                  case measure => simp [intOf]; omega
                have h8c : decide ((now : Int) < t0) = false := by simp [h8]
                obtain rfl : t0 = (now : Int) := by omega
                have hok := HOK.out
                obtain ⟨j, rfl⟩ : ∃ j : Nat, t1 = j := ⟨t1.toNat, by have := hok.k; rw [ht1] at this; omega⟩
                have hjl : j < v.tr.length := by have := hok.k; rw [ht1, Int.toNat_natCast] at this; exact this.2
                have hc2 : 1 ≤ t2 ∧ t2 ≤ 1000 := by have := hok.c; rw [ht2] at this; exact this
                have htop := HP2.out.top HV.out hl
                have htl16 := HV.out.tl
                have htop2 := htop.2.2 now j
                obtain ⟨ao, hao⟩ : ∃ z, outM (l.take k2) now j = z := ⟨_, rfl⟩
                rw [hao] at htop2
                have HCK : Hid (chkM v (l.take k2) now l[k2] = if (v.far j).2.2.2 < ao + t2 then 9 else if thM v (l.take k2) (v.far j).1.toNat (now + 1) < t2 then 10 else 0) := Lib.hid (by unfold chkM; rw [HMO.out, ht0, ht1, ht2, Int.toNat_natCast, hao]; simp [thM_succ]; first | rfl | congr)
                have HM37 : Hid (∀ W, Below wr.heap.size wr W → Calls Tryd.prog 37 #[ptr db, .agg #[I now, I j, I t2], I ao] W (MoveEnds W (w.heap.size + 1 + 1 + 1) v A1 A2 A3 q1 q2 q3 db tb mb (fun q => thM v (l.take k2) q (now + 1)) (comA v (l.take k2)) now j t2 ao)) := Lib.hid fun W hB =>
                  move37 v HV.out A1 A2 A3 q1 q2 q3 (w.heap.size + 1 + 1 + 1) db tb mb now j (by omega) hjl t2 ao (by omega) htop2 _ _ W ((HI.out.below (HW2.out.1.bl.trans (hB.mono (by omega)))).more (by omega)) (HW2.out.1.day.below hB) htop.1 (fun q u _ => htop.2.1 q u)
                have hkj : IsK Tryd.prog 3 (I j) := isK3 ⟨by omega, by omega⟩
                have hob : wc.heap.size < wr.heap.size := by obtain ⟨No, fo, mo1, _⟩ := HW2.out.2; exact mo1.lt
                have HLK : Hid (∀ W, Below wr.heap.size wr W → (Instr.lookup 69 (.map (some wc.heap.size)) (I j) false).run Tryd.prog W = .ok (I ao) W) := Lib.hid fun W hB => by
                  obtain ⟨No, fo, mo1, mo2⟩ := HW2.out.2
                  rw [(mo1.below hB hob).lookup lawI Tryd.underlying69 (zero3 _) hkj, mo2 j (by omega), hao]
                have hlk := HLK.out (wr.alloc (.cells #[I now, I j, I t2] 56)) (by (repeat' (first | assumption | exact Below.refl _ _ | refine Below.drew ?_ | refine below_drewN ?_ _ | refine Below.setCell ?_ (by first | omega | (simp; done) | (simp; omega)) _ | refine Below.alloc ?_ (by first | omega | (simp; done) | (simp; omega)) _ | refine Below.trans ?_ (Below.mono (by assumption) (by first | omega | (simp; done) | (simp; omega))))))
                have hbm : Box (wr.alloc (.cells #[I now, I j, I t2] 56)) wr.heap.size [I now, I j, I t2] := Box.new wr [I now, I j, I t2] 56
                have hlo := HW2.out.1.day.lo
                clear htop hok
                by_cases h9 : (v.far j).2.2.2 < ao + t2
                · have HFB := Lib.hid (HFA.out 9 (by rw [HCK.out, if_pos h9]) (by decide) (by decide))
                  clear HFA HP2
                  go_wp2_with (first
                    | (go_at_call 35; refine (within35 _ _ _ _).mono ?_; rintro e w8 ⟨rfl, rfl⟩)
                    | (go_at_call 36; refine (H36.out _).mono ?_; rintro e w8 ⟨rfl, rfl⟩)
                    | (go_at_call 34; refine (need_yes 1 _).mono ?_; rintro e w9 ⟨rfl, rfl⟩)
                    | (go_at_call 34; refine (need_yes 7 _).mono ?_; rintro e w9 ⟨rfl, rfl⟩)
                    | (go_at_call 37; refine (HM37.out _ (by (repeat' (first | assumption | exact Below.refl _ _ | refine Below.drew ?_ | refine below_drewN ?_ _ | refine Below.setCell ?_ (by first | omega | (simp; done) | (simp; omega)) _ | refine Below.alloc ?_ (by first | omega | (simp; done) | (simp; omega)) _ | refine Below.trans ?_ (Below.mono (by assumption) (by first | omega | (simp; done) | (simp; omega))))))).mono ?_; rintro e w9 hM; obtain ⟨rfl, hB9⟩ := hM.1 h9; clear hM)
                    | fail)
                  refine HFB.out _ (HW2.out.1.below ?_) _ ?_ ?_ ?_
                  · refine Below.trans (b := wr.alloc (.cells #[I now, I j, I t2] 56)) (by (repeat' (first | assumption | exact Below.refl _ _ | refine Below.drew ?_ | refine below_drewN ?_ _ | refine Below.setCell ?_ (by first | omega | (simp; done) | (simp; omega)) _ | refine Below.alloc ?_ (by first | omega | (simp; done) | (simp; omega)) _ | refine Below.trans ?_ (Below.mono (by assumption) (by first | omega | (simp; done) | (simp; omega)))))) (hB9.mono (by simp))
                  · rfl
                  · rfl
                  · rfl
                by_cases h10 : thM v (l.take k2) (v.far j).1.toNat (now + 1) < t2
                · have HFB := Lib.hid (HFA.out 10 (by rw [HCK.out, if_neg h9, if_pos h10]) (by decide) (by decide))
                  clear HFA HP2
                  go_wp2_with (first
                    | (go_at_call 35; refine (within35 _ _ _ _).mono ?_; rintro e w8 ⟨rfl, rfl⟩)
                    | (go_at_call 36; refine (H36.out _).mono ?_; rintro e w8 ⟨rfl, rfl⟩)
                    | (go_at_call 34; refine (need_yes 1 _).mono ?_; rintro e w9 ⟨rfl, rfl⟩)
                    | (go_at_call 34; refine (need_yes 7 _).mono ?_; rintro e w9 ⟨rfl, rfl⟩)
                    | (go_at_call 37; refine (HM37.out _ (by (repeat' (first | assumption | exact Below.refl _ _ | refine Below.drew ?_ | refine below_drewN ?_ _ | refine Below.setCell ?_ (by first | omega | (simp; done) | (simp; omega)) _ | refine Below.alloc ?_ (by first | omega | (simp; done) | (simp; omega)) _ | refine Below.trans ?_ (Below.mono (by assumption) (by first | omega | (simp; done) | (simp; omega))))))).mono ?_; rintro e w9 hM; obtain ⟨rfl, hB9⟩ := hM.2.1 (by omega) h10; clear hM)
                    | fail)
                  refine HFB.out _ (HW2.out.1.below ?_) _ ?_ ?_ ?_
                  · refine Below.trans (b := wr.alloc (.cells #[I now, I j, I t2] 56)) (by (repeat' (first | assumption | exact Below.refl _ _ | refine Below.drew ?_ | refine below_drewN ?_ _ | refine Below.setCell ?_ (by first | omega | (simp; done) | (simp; omega)) _ | refine Below.alloc ?_ (by first | omega | (simp; done) | (simp; omega)) _ | refine Below.trans ?_ (Below.mono (by assumption) (by first | omega | (simp; done) | (simp; omega)))))) (hB9.mono (by simp))
                  · rfl
                  · rfl
                  · rfl
                clear HFA
                have hmk : l[k2].2.1.toNat = j := by rw [ht1, Int.toNat_natCast]
                obtain ⟨sp, sth, sco, sou, spv⟩ := HP2.out.make HV.out hlt hk2 (by rw [HCK.out, if_neg h9, if_neg h10]) HOK.out (by rw [ht0, Int.toNat_natCast]) (by rw [hmk, ht2]; omega)
                rw [hmk, ht2] at sth sco sou
                have HSP := Lib.hid sp
                have hwA : IntKind.i64.wrap (ao + t2) = ao + t2 := IntWalk.i64_in _ (by omega)
                have HEN : Hid (∀ w9, Frm (wr.heap.size + 1) (fun b => b = tb ∨ b = mb) (wr.alloc (.cells #[I now, I j, I t2] 56)) w9 → DayAt w9 (w.heap.size + 1 + 1 + 1) v A1 A2 A3 q1 q2 q3 db tb mb (thL v.rm.length fun q => if q = (v.far j).1.toNat then thM v (l.take k2) q (now + 1) - t2 else thM v (l.take k2) q (now + 1)) (fun p u => if p = (v.far j).2.1.toNat ∧ u = now + (v.far j).2.2.1.toNat then comA v (l.take k2) p u + t2 else comA v (l.take k2) p u) →
                    (w9.cell? ⟨wr.heap.size, 1, none⟩ = some (I j) ∧ w9.cell? ⟨wr.heap.size, 2, none⟩ = some (I t2)) ∧ (Instr.lookup 69 (.map (some wc.heap.size)) (I j) false).run Tryd.prog w9 = .ok (I ao) w9 ∧ ∃ No fo, MapAt Tryd.prog 3 w9 wc.heap.size No fo ∧
                    ∀ wz, MapAt Tryd.prog 3 wz wc.heap.size (No + 1) (putF fo (I j) (I (ao + t2))) → w9.grownBy wz (some wc.heap.size) → Hid (SeeW w wz v A1 A2 A3 q1 q2 q3 db tb mb (fun q => thM v (l.take (k2 + 1)) q (now + 1)) (comA v (l.take (k2 + 1))) (pvF v l pn mn (now + 1) (k2 + 1)) ∧ OutAt wz wc.heap.size (outM (l.take (k2 + 1)) now))) := Lib.hid fun w9 hF hD => by
                  obtain ⟨No, fo, mo1, mo2⟩ := HW2.out.2
                  have hob2 : wc.heap.size ≠ tb ∧ wc.heap.size ≠ mb := ⟨by omega, by omega⟩
                  have mo9 := (mo1.alloc (.cells #[I now, I j, I t2] 56)).frm hF (by omega) (fun h => by omega)
                  have hb9 := hbm.frm hF (by omega) (fun h => by omega)
                  refine ⟨⟨(hb9.at_ 1 _ rfl).1, (hb9.at_ 2 _ rfl).1⟩, by rw [mo9.lookup lawI Tryd.underlying69 (zero3 _) hkj, mo2 j (by omega), hao], No, fo, mo9, fun wz hmz hgz => Lib.hid ⟨?_, ?_⟩⟩
                  · rw [spv]
                    have hFz : Frm wr.heap.size (fun b => b = tb ∨ b = mb ∨ b = wc.heap.size) wr wz := by
                      have hsz := hF.size
                      rw [World.size_alloc] at hsz
                      refine Frm.grown (Frm.trans (Frm.of_below (below1 wr (.cells #[I now, I j, I t2] 56)) (Nat.le_refl _)) (hF.mono (by omega) (fun k _ h => by omega))) hgz (by omega) (fun k e => by have := Option.some.inj e; omega)
                    refine HW2.out.1.frm hFz (fun b hb => by have := hD.lo; omega) ?_
                    obtain ⟨N1, f1, n1, n2⟩ := hD.map
                    have hne : db ≠ wc.heap.size ∧ tb ≠ wc.heap.size ∧ mb ≠ wc.heap.size := by omega
                    have hth2 : (thL v.rm.length fun q => if q = (v.far j).1.toNat then thM v (l.take k2) q (now + 1) - t2 else thM v (l.take k2) q (now + 1)) = thL v.rm.length fun q => thM v (l.take (k2 + 1)) q (now + 1) := thL_congr fun q _ => (sth q).symm
                    refine ⟨hD.box.grown hgz (fun e => hne.1 (Option.some.inj e).symm), ?_, by simp [thL], hD.ne, ⟨N1, f1, n1.grown hgz (fun e => hne.2.2 (Option.some.inj e)), n2.congr fun a b => (sco a b).symm⟩, hD.lo⟩
                    have := hD.th.grown hgz (fun e => hne.2.1 (Option.some.inj e).symm)
                    rw [hth2] at this
                    exact this
                  · refine ⟨No + 1, _, hmz, fun i hi => ?_⟩
                    rw [sou i]
                    by_cases e : i = j
                    · subst e; rw [putF_same, if_pos rfl, hao]; rfl
                    · rw [putF_other (fun h => e (by simp only [Value.int.injEq, true_and] at h; omega)), if_neg e]; exact mo2 i hi
                have HMR : Hid (∀ W, Below wr.heap.size wr W → Calls Tryd.prog 37 #[ptr db, .agg #[I now, I j, I t2], I ao] W fun e w' => e = .returned (.tuple #[]) ∧ Frm W.heap.size (fun b => b = tb ∨ b = mb) W w' ∧ DayAt w' (w.heap.size + 1 + 1 + 1) v A1 A2 A3 q1 q2 q3 db tb mb (thL v.rm.length fun q => if q = (v.far j).1.toNat then thM v (l.take k2) q (now + 1) - t2 else thM v (l.take k2) q (now + 1)) (fun p u => if p = (v.far j).2.1.toNat ∧ u = now + (v.far j).2.2.1.toNat then comA v (l.take k2) p u + t2 else comA v (l.take k2) p u)) := Lib.hid fun W hB => (HM37.out W hB).mono fun e w' hM => hM.2.2 h9 h10
                clear HP2 HW2 HX HMO HOK HCK HM37 hbm sth sco sou spv sp ht0 ht1 ht2 hmk hao
                go_wp2_with (first
                  | (go_at_call 35; refine (within35 _ _ _ _).mono ?_; rintro e w8 ⟨rfl, rfl⟩)
                  | (go_at_call 36; refine (H36.out _).mono ?_; rintro e w8 ⟨rfl, rfl⟩)
                  | (go_at_call 34; refine (need_yes 1 _).mono ?_; rintro e w9 ⟨rfl, rfl⟩)
                  | (go_at_call 34; refine (need_yes 7 _).mono ?_; rintro e w9 ⟨rfl, rfl⟩)
                  | (go_at_call 37; refine (HMR.out _ (by (repeat' (first | assumption | exact Below.refl _ _ | refine Below.drew ?_ | refine below_drewN ?_ _ | refine Below.setCell ?_ (by first | omega | (simp; done) | (simp; omega)) _ | refine Below.alloc ?_ (by first | omega | (simp; done) | (simp; omega)) _ | refine Below.trans ?_ (Below.mono (by assumption) (by first | omega | (simp; done) | (simp; omega))))))).mono ?_; rintro e w9 ⟨rfl, hF9, hD9⟩; rw [World.size_alloc] at hF9; obtain ⟨⟨y1, y2⟩, hl9, No, fo, mo9, hz9⟩ := HEN.out w9 hF9 hD9; clear hlk hF9 hD9)
                  | (refine wpList_store_at _ rfl _ _ _ 69 (.inl rfl) 3 lawI Tryd.underlying69 wc.heap.size No fo rfl mo9 (I j) (I (ao + t2)) rfl rfl hkj ?_; intro wz hmz hgz hsz; have HZ := hz9 wz hmz hgz; clear hz9 hmz hgz hsz mo9)
                  | fail)
                go_roundw
                case rel => exact ⟨k2 + 1, by go_num, HSP, HZ⟩
                case measure => simp [intOf]; omega
              · have k2b : ¬ (k2 : Int) < (l.length : Int) := by omega
                have HP3 := Lib.hid (HP2.out.done hlt (by omega))
                go_wp2_with (fail)
                go_roundw
                case rel => exact ⟨k2, now + 1, rfl, by go_num, by omega, HP3, Lib.hid HW2.out.1⟩
                case measure => simp [intOf]; omega
        · obtain rfl : now = 61 := by omega
          have HN : Hid (R (.returned (.tuple #[I (pvF v l pn mn 61 k), I k, I 0])) ((wr.setCell ⟨w.heap.size + 1, 0, none⟩ (I (pvF v l pn mn 61 k))).setCell ⟨w.heap.size + 1 + 1, 0, none⟩ (I 0))) := Lib.hid (HE.out k HP.out.at_.last _ ((HW.out.bl.setCell (p := ⟨w.heap.size + 1, 0, none⟩) (by dsimp only; omega) _).setCell (p := ⟨w.heap.size + 1 + 1, 0, none⟩) (by dsimp only; omega) _))
          obtain ⟨cp, cpz⟩ := HW.out.pe.at_ 0 _ rfl
          obtain ⟨ce, cez⟩ := HW.out.er.at_ 0 _ rfl
          go_wp2_with (fail)
          refine leaves_cons (f := 31) (args := #[.pointer (some ⟨w.heap.size + 1, 0, none⟩), .pointer (some ⟨w.heap.size + 1 + 1, 0, none⟩)]) (by simp) (by simp [go_sem]) ?_
          refine (catch_idle _ _ _).mono ?_
          rintro e u' w'' ⟨rfl, rfl, rfl⟩
          simp [Leaves, settle, results, Tryd.results14, go_sem, cp, ce]
          exact HN.out
    · have hlb : (256 : Int) < (l.length : Int) := by omega
      have HE : Hid (∀ W, Below w.heap.size w W → SeeEnds w v l p m (.returned (.tuple #[I 0, I 0, I 3])) W) := Lib.hid fun W h => by unfold SeeEnds; rw [seeV_long he hl]; exact ⟨rfl, h⟩
      generalize SeeEnds w v l p m = R at *
      go_enter_defers Tryd.func14, Tryd.ntmps14
      go_wp2_with (first
        | (go_at_call 30; refine H30.out.mono ?_; rintro e w4 ⟨rfl, hb4⟩; obtain ⟨_, ⟨y1, y2⟩, hB4⟩ := HBX.out w4 hb4; obtain ⟨z1, z1f⟩ := y1.at_ 0 _ rfl; obtain ⟨z2, z2f⟩ := y2.at_ 0 _ rfl; clear y1 y2)
        | fail)
      simp [bodyPostD, Leaves, settle, results, Tryd.results14, go_sem, z1, z2]
      exact HE.out _ (by (repeat' (first | assumption | exact Below.refl _ _ | refine Below.drew ?_ | refine below_drewN ?_ _ | refine Below.setCell ?_ (by first | omega | (simp; done) | (simp; omega)) _ | refine Below.alloc ?_ (by first | omega | (simp; done) | (simp; omega)) _ | refine Below.trans ?_ (Below.mono (by assumption) (by first | omega | (simp; done) | (simp; omega))))))
  · have HS : Hid (seeV v l p m = (0, 0, errN v p m)) := Lib.hid (seeV_err he)
    obtain ⟨en, hen⟩ : ∃ z, errN v p m = z := ⟨_, rfl⟩
    rw [hen] at H30 HS he
    have HE : Hid (∀ W, Below w.heap.size w W → SeeEnds w v l p m (.returned (.tuple #[I 0, I 0, I en])) W) := Lib.hid fun W h => by unfold SeeEnds; rw [HS.out]; exact ⟨rfl, h⟩
    clear hen HS
    generalize SeeEnds w v l p m = R at *
    go_enter_defers Tryd.func14, Tryd.ntmps14
    go_wp2_with (first
      | (go_at_call 30; refine H30.out.mono ?_; rintro e w4 ⟨rfl, hb4⟩; obtain ⟨_, ⟨y1, y2⟩, hB4⟩ := HBX.out w4 hb4; obtain ⟨z1, z1f⟩ := y1.at_ 0 _ rfl; obtain ⟨z2, z2f⟩ := y2.at_ 0 _ rfl; clear y1 y2)
      | fail)
    simp [bodyPostD, Leaves, settle, results, Tryd.results14, go_sem, z1, z2]
    exact HE.out _ (by (repeat' (first | assumption | exact Below.refl _ _ | refine Below.drew ?_ | refine below_drewN ?_ _ | refine Below.setCell ?_ (by first | omega | (simp; done) | (simp; omega)) _ | refine Below.alloc ?_ (by first | omega | (simp; done) | (simp; omega)) _ | refine Below.trans ?_ (Below.mono (by assumption) (by first | omega | (simp; done) | (simp; omega))))))
end Go.Proofs.YtomfnldlnoiloaaDoor
