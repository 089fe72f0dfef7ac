/- CrowdMoves: the walk. Printed by mkTM.py. -/
import Derived.Test.YtomfnldlnoiloaaDoorF2
import Derived.Test.YtomfnldlnoiloaaDoorF3
import Derived.Test.YtomfnldlnoiloaaDoorTh
namespace Go.Proofs.YtomfnldlnoiloaaDoor
set_option linter.unusedVariables false
set_option linter.unusedSimpArgs false
open Go Go.RowKit Go.Maps

set_option maxRecDepth 100000 in
set_option maxHeartbeats 16000000 in
theorem moves_any (v : Vis) (A1 A2 A3 : Option Addr) (q1 q2 q3 : Nat) (AL : Option Addr) (ql : Nat) (l : List Mv) (p m : Int) (w : World) (hG : GlobOk w) (hI : VisAt w w.heap.size v A1 A2 A3) (h64 : Vis64 v) (hL : Threes w w.heap.size AL l) (hll : l.length ≤ 9223372036854775807)
    (hbig : v.rm.length + v.tr.length + v.ar.length ≤ 1000000000000000) :
    Calls Tryd.prog 8 #[visV v A1 A2 A3 q1 q2 q3, .slice AL l.length ql, I p, I m] w fun e w' => e = .returned (.bool true) ∧ Below w.heap.size w w' := by
  obtain ⟨w2, hw2⟩ : ∃ w2, w.alloc (.cells #[.slice A1 v.rm.length q1, .slice A2 v.tr.length q2, .slice A3 v.ar.length q3] 26) = w2 := ⟨_, rfl⟩
  have hz2 : w2.heap.size = w.heap.size + 1 := by rw [← hw2]; simp
  have hB2 : Below w.heap.size w w2 := by rw [← hw2]; exact below1 _ _
  have b1 : Box w2 w.heap.size [.slice A1 v.rm.length q1, .slice A2 v.tr.length q2, .slice A3 v.ar.length q3] := by rw [← hw2]; exact Box.new w [.slice A1 v.rm.length q1, .slice A2 v.tr.length q2, .slice A3 v.ar.length q3] 26
  have HX : Hid (∀ W, Below w2.heap.size w2 W → (W.cell? ⟨w.heap.size, 0, none⟩ = some (.slice A1 v.rm.length q1) ∧ W.cell? ⟨w.heap.size, 1, none⟩ = some (.slice A2 v.tr.length q2) ∧ W.cell? ⟨w.heap.size, 2, none⟩ = some (.slice A3 v.ar.length q3)) ∧ VisAt W W.heap.size v A1 A2 A3 ∧ Threes W W.heap.size AL l ∧ GlobOk W ∧ Below w.heap.size w W) := Lib.hid fun W h => by
    have hb := hB2.trans (h.mono hB2.size)
    exact ⟨⟨((b1.call h).at_ 0 _ rfl).1, ((b1.call h).at_ 1 _ rfl).1, ((b1.call h).at_ 2 _ rfl).1⟩, (hI.below hb).more hb.size, (hL.below hb).more hb.size, hG.below hb hG.z, hb⟩
  have HB := Lib.hid (Below.refl w2.heap.size w2)
  obtain ⟨⟨x0, x1, x2⟩, _⟩ := HX.out w2 HB.out
  have H12 : Hid (∀ W, Calls Tryd.prog 12 #[visV v A1 A2 A3 q1 q2 q3] W (RetFew (v.rm.length + v.tr.length + v.ar.length ≤ 40) W)) := Lib.hid fun W => great12 v A1 A2 A3 q1 q2 q3 W hbig
  have H13 : Hid (∀ W, GlobOk W → Calls Tryd.prog 13 #[] W fun e w' => e = .returned (.bool true) ∧ Below W.heap.size W w') := Lib.hid alive13
  have H14 : Hid (∀ (A : Option Addr) (l' : List Mv) (q' : Nat) W, Below w2.heap.size w2 W → Threes W W.heap.size A l' → Calls Tryd.prog 14 #[visV v A1 A2 A3 q1 q2 q3, .slice A l'.length q', I p, I m] W fun e w' => e = .returned (.tuple #[I (seeV v l' p m).1, I (seeV v l' p m).2.1, I (seeV v l' p m).2.2]) ∧ Below W.heap.size W w') := Lib.hid fun A l' q' W h hl' => see14 v h64 A1 A2 A3 A q1 q2 q3 q' l' p m W (HX.out W h).2.1 hl'
  have H21 : Hid (∀ W, Below w2.heap.size w2 W → Calls Tryd.prog 21 #[visV v A1 A2 A3 q1 q2 q3, I p, I m] W fun e w' => e = .returned (I (errN v p m)) ∧ Below W.heap.size W w') := Lib.hid fun W h => errors21 v h64 A1 A2 A3 q1 q2 q3 p m W (HX.out W h).2.1
  have HVI : Hid (∀ W, Below w2.heap.size w2 W → VisAt W W.heap.size v A1 A2 A3) := Lib.hid fun W h => (HX.out W h).2.1
  clear b1 hB2 hI hL hG h64 hbig
  by_cases hl40 : (40 : Int) < (l.length : Int)
  · go_enter Tryd.func8, Tryd.ntmps8
    go_wp2_with (first
      | (go_at_call 12; refine (H12.out _).mono ?_; rintro e w3 ⟨b, rfl, hb, hB⟩; replace HB := Lib.hid (HB.out.trans (hB.mono HB.out.size)); clear x0 x1 x2; obtain ⟨⟨x0, x1, x2⟩, _⟩ := HX.out _ HB.out; clear hB hb)
      | (go_at_call 13; refine (H13.out _ (HX.out _ HB.out).2.2.2.1).mono ?_; rintro e w9 ⟨rfl, hB⟩; replace HB := Lib.hid (HB.out.trans (hB.mono HB.out.size)); clear x0 x1 x2; obtain ⟨⟨x0, x1, x2⟩, _⟩ := HX.out _ HB.out; clear hB)
      | fail)
    all_goals (refine bodyPost_ret (v := .bool true) ?_ rfl ⟨rfl, (HX.out _ HB.out).2.2.2.2⟩; simp [results, Tryd.results8, go_sem]; done)
  have H14a : Hid (∀ W, Below w2.heap.size w2 W → Calls Tryd.prog 14 #[visV v A1 A2 A3 q1 q2 q3, .slice AL l.length ql, I p, I m] W fun e w' => e = .returned (.tuple #[I (seeV v l p m).1, I (seeV v l p m).2.1, I (seeV v l p m).2.2]) ∧ Below W.heap.size W w') := Lib.hid fun W h => H14.out AL l ql W h (HX.out W h).2.2.1
  by_cases hE : (seeV v l p m).2.2 = 0
  · obtain ⟨he, h256, hg, hs⟩ := see_fine hE
    rw [hs] at H14a
    rw [he] at H21
    obtain ⟨hv, hp, hm0, hm60⟩ := err_zero he
    obtain ⟨pn, rfl⟩ : ∃ n : Nat, p = n := ⟨p.toNat, by omega⟩
    obtain ⟨mn, rfl⟩ : ∃ n : Nat, m = n := ⟨m.toNat, by omega⟩
    have hpn : pn < v.n := by omega
    simp only [Int.toNat_natCast] at H14a hs
    have hN0 := good_beg hv hg hpn mn
    have hR0 := hv.room pn hpn
    obtain ⟨N, hN⟩ : ∃ z, min (begM v l pn mn) (v.room pn) = z := ⟨_, rfl⟩
    have HV := Lib.hid hv
    have HGd := Lib.hid hg
    have HOT : Hid (∀ l' : List Mv, l'.Perm l → Good v [] l' → seeV v l' pn mn = (N, (l'.length : Int), 0)) := Lib.hid fun l' hp' hg' => by
      rw [see_made he (by rw [hp'.length_eq]; exact h256) hg']
      simp only [Int.toNat_natCast]
      rw [begM_perm v hp', hN]
    have HFI : Hid (seeV v (tillM mn l) pn mn = (N, ((tillM mn l).length : Int), 0)) := Lib.hid (by
      have := good_till hv (mn := mn) pn hg
      rw [see_made (l := tillM mn l) he (Nat.le_trans (List.length_filter_le _ _) h256) this.1]
      simp only [Int.toNat_natCast]
      rw [List.nil_append, List.nil_append] at this
      rw [this.2, hN])
    rw [hN] at H14a
    have hNn : 0 ≤ N := by omega
    have hNr : N ≤ v.room pn := by omega
    obtain ⟨i0, hi0, hi1, hi2, hi3⟩ := info_parts info56
    have hlen40 : l.length ≤ 40 := by omega
    clear hE he hv hs hN hp hm0 hN0 hR0
    go_enter Tryd.func8, Tryd.ntmps8
    go_wp2_with (first
      | (go_at_call 12; refine (H12.out _).mono ?_; rintro e w3 ⟨b, rfl, hb, hB⟩; replace HB := Lib.hid (HB.out.trans (hB.mono HB.out.size)); clear x0 x1 x2; obtain ⟨⟨x0, x1, x2⟩, _⟩ := HX.out _ HB.out; clear hB hb)
      | (go_at_call 13; refine (H13.out _ (HX.out _ HB.out).2.2.2.1).mono ?_; rintro e w9 ⟨rfl, hB⟩; replace HB := Lib.hid (HB.out.trans (hB.mono HB.out.size)); clear x0 x1 x2; obtain ⟨⟨x0, x1, x2⟩, _⟩ := HX.out _ HB.out; clear hB)
      | (go_at_call 14; refine (H14a.out _ HB.out).mono ?_; rintro e w4 ⟨rfl, hB⟩; replace HB := Lib.hid (HB.out.trans (hB.mono HB.out.size)); clear x0 x1 x2; obtain ⟨⟨x0, x1, x2⟩, _⟩ := HX.out _ HB.out; clear hB)
      | (go_at_call 21; refine (H21.out _ HB.out).mono ?_; rintro e w9 ⟨rfl, hB⟩; replace HB := Lib.hid (HB.out.trans (hB.mono HB.out.size)); clear x0 x1 x2; obtain ⟨⟨x0, x1, x2⟩, _⟩ := HX.out _ HB.out; clear hB)
      | (at_builtin; have HAT := Lib.hid (flat3_at ((HX.out _ HB.out).2.2.1.below (below1 w9 (.cells #[] 56)))); have HROW : Hid ((w9.alloc (.cells #[] 56)).ownsRow w9.heap.size 56 3 (.slice (some ⟨w9.heap.size, 0, none⟩) 0 0) 0 []) := Lib.hid (World.ownsRow_made w9 #[] 0 (Nat.le_refl _) (Nat.zero_le _) (by simp)); refine wpList_append_any _ rfl _ _ 27 rfl w9.heap.size 56 i0 (.agg #[I 0, I 0, I 0]) 3 24 Tryd.underlying27 hi0 hi1 hi2 hi3 rfl (by decide) _ 0 [] rfl HROW.out AL l.length ql (flat3 l) rfl (flat3_len l) HAT.out (flat3_one l) (by unfold maxLen; omega) (by omega) (below1 w9 (.cells #[] 56)).size ?_; intro r1 w5 ho5 hg5; rw [Nat.zero_add, List.nil_append] at ho5; have hB : Below w9.heap.size w9 w5 := (below1 w9 (.cells #[] 56)).grown hg5 (below1 w9 (.cells #[] 56)).size (fun g e => (HROW.out.lt g e).1); obtain ⟨Ao, co, hr1, _⟩ := threes_own ho5 rfl; subst hr1; have HO := Lib.hid ho5; have HB9 := HB; have HB59 := Lib.hid hB; replace HB := Lib.hid (HB.out.trans (hB.mono HB.out.size)); clear x0 x1 x2; obtain ⟨⟨x0, x1, x2⟩, _⟩ := HX.out _ HB.out; clear hB ho5 hg5 HROW HAT)
      | fail)
    all_goals first | (refine bodyPost_ret (v := .bool true) ?_ rfl ⟨rfl, (HX.out _ HB.out).2.2.2.2⟩; simp [results, Tryd.results8, go_sem]; done) | skip
    have hzz := HB9.out.size
    go_loopw [13] (fun i wr => ∃ (k : Nat) (lj : List Mv), i = I k ∧ 1 ≤ k ∧ Hid (lj.Perm l) ∧ Hid (Good v [] lj) ∧ Hid (Below w9.heap.size w9 wr) ∧ Hid (wr.ownsRow w9.heap.size 56 3 (.slice Ao l.length co) l.length (flat3 lj))) (fun i _ => l.length - (intOf i).toNat)
    case atStart => exact ⟨1, l, rfl, by omega, Lib.hid (List.Perm.refl _), HGd, HB59, HO⟩
    case round =>
      obtain ⟨k, lj, rfl, hk, HPm, HGj, HBj, HOj⟩ := hrel
      clear HO HB HB59 x0 x1 x2
      have HB := Lib.hid (HB9.out.trans (HBj.out.mono hzz))
      obtain ⟨⟨x0, x1, x2⟩, _⟩ := HX.out _ HB.out
      have hzl := HPm.out.length_eq
      by_cases hlt : k < l.length
      · obtain ⟨g, hA, hgb, hgz⟩ := own3_form HOj.out (by omega)
        subst hA
        obtain ⟨i, hik⟩ : ∃ i, k = i + 1 := ⟨k - 1, by omega⟩
        obtain ⟨ca, cb, hsplit, hca⟩ := two_at (l := lj) (i := i) (by omega)
        obtain ⟨fx, hfx⟩ : ∃ z, lj[i]'(by omega) = z := ⟨_, rfl⟩
        obtain ⟨fy, hfy⟩ : ∃ z, lj[i + 1]'(by omega) = z := ⟨_, rfl⟩
        rw [hfx, hfy] at hsplit
        obtain ⟨e1, e2, e3⟩ := flat3_get lj i (by omega)
        obtain ⟨e4, e5, e6⟩ := flat3_get lj (i + 1) (by omega)
        rw [hfx] at e1 e2 e3
        rw [hfy, ← hik] at e4 e5 e6
        have HOX := Lib.hid (HGj.out.all fx (by rw [hsplit]; simp))
        have HOY := Lib.hid (HGj.out.all fy (by rw [hsplit]; simp))
        obtain ⟨a1, a2, a3⟩ := fx
        obtain ⟨c1, c2, c3⟩ := fy
        dsimp only at e1 e2 e3 e4 e5 e6
        have HCE : Hid (∀ W, Below wr.heap.size wr W → (W.cell? ⟨g, i * 3, none⟩ = some (I a1) ∧ W.cell? ⟨g, i * 3 + 1, none⟩ = some (I a2) ∧ W.cell? ⟨g, i * 3 + 2, none⟩ = some (I a3)) ∧ W.cell? ⟨g, k * 3, none⟩ = some (I c1) ∧ W.cell? ⟨g, k * 3 + 1, none⟩ = some (I c2) ∧ W.cell? ⟨g, k * 3 + 2, none⟩ = some (I c3)) := Lib.hid fun W h => by
          have hc : ∀ o, o < l.length * 3 → W.cell? ⟨g, o, none⟩ = (flat3 lj)[o]? := fun o ho => (h.cell (p := ⟨g, o, none⟩) hgz).trans (HOj.out.cellAt o ho)
          exact ⟨⟨(hc _ (by omega)).trans e1, (hc _ (by omega)).trans e2, (hc _ (by omega)).trans e3⟩, (hc _ (by omega)).trans e4, (hc _ (by omega)).trans e5, (hc _ (by omega)).trans e6⟩
        have k0 : (0 : Int) ≤ (k : Int) := by omega
        have k1 : (k : Int) < (l.length : Int) := by omega
        have ii0 : (0 : Int) ≤ (i : Int) := by omega
        have ii1 : (i : Int) < (l.length : Int) := by omega
        have hsub : IntKind.i64.wrap ((k : Int) - 1) = (i : Int) := by rw [hik]; exact (IntWalk.i64_in _ (by omega)).trans (by omega)
        have HSP := Lib.hid (And.intro hik (And.intro hsplit hca))
        clear e1 e2 e3 e4 e5 e6 hfx hfy hik hsplit hca
        go_upto_if 79 with (fail)
        go_cut [14, 15] from 79 to 87 (fun v14 v15 wx => ∃ g1 g2, v14 = ptr g1 ∧ v15 = ptr g2 ∧ Hid (Below wr.heap.size wr wx) ∧ Hid (Box wx g1 [I a1, I a2, I a3]) ∧ Hid (Box wx g2 [I c1, I c2, I c3]) ∧ wr.heap.size ≤ g1 ∧ wr.heap.size ≤ g2)
        case first =>
          refine wp_norm ?_
          refine (wpIn_wide (n := 9)).1 ?_
          refine wpIn_region_plan (Plan.ons [0, 1, 2, 3, 4, 5, 6, 7, 8] (.two 9 (Plan.ons [10, 11, 12] .fin) 10 (Plan.ons [9, 11, 12] .fin))) [0, 1, 2, 3, 4, 5, 6, 7, 8] (fun W => Below wr.heap.size wr W) [] rfl (by kernel_rfl) (by kernel_rfl) (fun _ _ _ _ _ h => by cases h.1) (Below.refl _ _).drew ?_
          (refine ordQ_held (.slice (some ⟨g, 0, none⟩) l.length co) rfl rfl rfl rfl (fun W' hC' => ?_) (fun K hK => ?_); (focus (obtain ⟨⟨y0, y1, y2⟩, y3, y4, y5⟩ := HCE.out _ hC'; go_simp; try exact ⟨rfl, rfl⟩)); go_simp; refine hK _ ?_; clear hK K)
          (refine ordQ_held (I k) rfl rfl rfl rfl (fun W' hC' => ?_) (fun K hK => ?_); (focus (obtain ⟨⟨y0, y1, y2⟩, y3, y4, y5⟩ := HCE.out _ hC'; go_simp; try exact ⟨rfl, rfl⟩)); go_simp; refine hK _ ?_; clear hK K)
          (refine ordQ_held (I i) rfl rfl rfl rfl (fun W' hC' => ?_) (fun K hK => ?_); (focus (obtain ⟨⟨y0, y1, y2⟩, y3, y4, y5⟩ := HCE.out _ hC'; go_simp; try exact ⟨rfl, rfl⟩)); go_simp; refine hK _ ?_; clear hK K)
          (refine ordQ_held (.pointer (some ⟨g, i * 3, none⟩)) rfl rfl rfl rfl (fun W' hC' => ?_) (fun K hK => ?_); (focus (obtain ⟨⟨y0, y1, y2⟩, y3, y4, y5⟩ := HCE.out _ hC'; go_simp; try exact ⟨rfl, rfl⟩)); go_simp; refine hK _ ?_; clear hK K)
          (refine ordQ_held (.agg #[I a1, I a2, I a3]) rfl rfl rfl rfl (fun W' hC' => ?_) (fun K hK => ?_); (focus (obtain ⟨⟨y0, y1, y2⟩, y3, y4, y5⟩ := HCE.out _ hC'; go_simp; try exact ⟨rfl, rfl⟩)); go_simp; refine hK _ ?_; clear hK K)
          (refine ordQ_held (.slice (some ⟨g, 0, none⟩) l.length co) rfl rfl rfl rfl (fun W' hC' => ?_) (fun K hK => ?_); (focus (obtain ⟨⟨y0, y1, y2⟩, y3, y4, y5⟩ := HCE.out _ hC'; go_simp; try exact ⟨rfl, rfl⟩)); go_simp; refine hK _ ?_; clear hK K)
          (refine ordQ_held (I k) rfl rfl rfl rfl (fun W' hC' => ?_) (fun K hK => ?_); (focus (obtain ⟨⟨y0, y1, y2⟩, y3, y4, y5⟩ := HCE.out _ hC'; go_simp; try exact ⟨rfl, rfl⟩)); go_simp; refine hK _ ?_; clear hK K)
          (refine ordQ_held (.pointer (some ⟨g, k * 3, none⟩)) rfl rfl rfl rfl (fun W' hC' => ?_) (fun K hK => ?_); (focus (obtain ⟨⟨y0, y1, y2⟩, y3, y4, y5⟩ := HCE.out _ hC'; go_simp; try exact ⟨rfl, rfl⟩)); go_simp; refine hK _ ?_; clear hK K)
          (refine ordQ_held (.agg #[I c1, I c2, I c3]) rfl rfl rfl rfl (fun W' hC' => ?_) (fun K hK => ?_); (focus (obtain ⟨⟨y0, y1, y2⟩, y3, y4, y5⟩ := HCE.out _ hC'; go_simp; try exact ⟨rfl, rfl⟩)); go_simp; refine hK _ ?_; clear hK K)
          refine ordQ_two rfl rfl rfl rfl (fun K hK => ?_) (fun K hK => ?_)
          · gi_wp2
            refine hK _ _ (fun _ => by (repeat' (first | assumption | exact Below.refl _ _ | refine Below.drew ?_ | refine below_drewN ?_ _ | refine Below.setCell ?_ (by first | omega | (simp; done) | (simp; omega)) _ | refine Below.alloc ?_ (by first | omega | (simp; done) | (simp; omega)) _ | refine Below.trans ?_ (Below.mono (by assumption) (by first | omega | (simp; done) | (simp; omega)))))) ?_
            clear hK K
            refine ordQ_hv rfl rfl rfl (fun K hK => ?_)
            gi_wp2
            refine hK _ _ (fun _ => by (repeat' (first | assumption | exact Below.refl _ _ | refine Below.drew ?_ | refine below_drewN ?_ _ | refine Below.setCell ?_ (by first | omega | (simp; done) | (simp; omega)) _ | refine Below.alloc ?_ (by first | omega | (simp; done) | (simp; omega)) _ | refine Below.trans ?_ (Below.mono (by assumption) (by first | omega | (simp; done) | (simp; omega)))))) ?_
            clear hK K
            refine ordQ_hv rfl rfl rfl (fun K hK => ?_)
            gi_wp2
            refine hK _ _ (fun _ => by (repeat' (first | assumption | exact Below.refl _ _ | refine Below.drew ?_ | refine below_drewN ?_ _ | refine Below.setCell ?_ (by first | omega | (simp; done) | (simp; omega)) _ | refine Below.alloc ?_ (by first | omega | (simp; done) | (simp; omega)) _ | refine Below.trans ?_ (Below.mono (by assumption) (by first | omega | (simp; done) | (simp; omega)))))) ?_
            clear hK K
            refine ordQ_hv rfl rfl rfl (fun K hK => ?_)
            gi_wp2
            refine hK _ _ (fun _ => by (repeat' (first | assumption | exact Below.refl _ _ | refine Below.drew ?_ | refine below_drewN ?_ _ | refine Below.setCell ?_ (by first | omega | (simp; done) | (simp; omega)) _ | refine Below.alloc ?_ (by first | omega | (simp; done) | (simp; omega)) _ | refine Below.trans ?_ (Below.mono (by assumption) (by first | omega | (simp; done) | (simp; omega)))))) ?_
            clear hK K
            refine ordQ_fin ⟨rfl, ?_⟩
            have q1 := (Box.new wr.drew [I a1, I a2, I a3] 56).alloc (.cells [I c1, I c2, I c3].toArray 56)
            have q2 := Box.new (wr.drew.alloc (.cells [I a1, I a2, I a3].toArray 56)) [I c1, I c2, I c3] 56
            simp only [World.size_alloc, World.size_drew] at q1 q2
            go_wp2_with (fail)
            go_meet
            exact ⟨_, _, rfl, rfl, Lib.hid (by (repeat' (first | assumption | exact Below.refl _ _ | refine Below.drew ?_ | refine below_drewN ?_ _ | refine Below.setCell ?_ (by first | omega | (simp; done) | (simp; omega)) _ | refine Below.alloc ?_ (by first | omega | (simp; done) | (simp; omega)) _ | refine Below.trans ?_ (Below.mono (by assumption) (by first | omega | (simp; done) | (simp; omega)))))), Lib.hid q1, Lib.hid q2, by omega, by omega⟩
          · gi_wp2
            refine hK _ _ (fun _ => by (repeat' (first | assumption | exact Below.refl _ _ | refine Below.drew ?_ | refine below_drewN ?_ _ | refine Below.setCell ?_ (by first | omega | (simp; done) | (simp; omega)) _ | refine Below.alloc ?_ (by first | omega | (simp; done) | (simp; omega)) _ | refine Below.trans ?_ (Below.mono (by assumption) (by first | omega | (simp; done) | (simp; omega)))))) ?_
            clear hK K
            refine ordQ_hv rfl rfl rfl (fun K hK => ?_)
            gi_wp2
            refine hK _ _ (fun _ => by (repeat' (first | assumption | exact Below.refl _ _ | refine Below.drew ?_ | refine below_drewN ?_ _ | refine Below.setCell ?_ (by first | omega | (simp; done) | (simp; omega)) _ | refine Below.alloc ?_ (by first | omega | (simp; done) | (simp; omega)) _ | refine Below.trans ?_ (Below.mono (by assumption) (by first | omega | (simp; done) | (simp; omega)))))) ?_
            clear hK K
            refine ordQ_hv rfl rfl rfl (fun K hK => ?_)
            gi_wp2
            refine hK _ _ (fun _ => by (repeat' (first | assumption | exact Below.refl _ _ | refine Below.drew ?_ | refine below_drewN ?_ _ | refine Below.setCell ?_ (by first | omega | (simp; done) | (simp; omega)) _ | refine Below.alloc ?_ (by first | omega | (simp; done) | (simp; omega)) _ | refine Below.trans ?_ (Below.mono (by assumption) (by first | omega | (simp; done) | (simp; omega)))))) ?_
            clear hK K
            refine ordQ_hv rfl rfl rfl (fun K hK => ?_)
            gi_wp2
            refine hK _ _ (fun _ => by (repeat' (first | assumption | exact Below.refl _ _ | refine Below.drew ?_ | refine below_drewN ?_ _ | refine Below.setCell ?_ (by first | omega | (simp; done) | (simp; omega)) _ | refine Below.alloc ?_ (by first | omega | (simp; done) | (simp; omega)) _ | refine Below.trans ?_ (Below.mono (by assumption) (by first | omega | (simp; done) | (simp; omega)))))) ?_
            clear hK K
            refine ordQ_fin ⟨rfl, ?_⟩
            have q1 := (Box.new wr.drew [I c1, I c2, I c3] 56).alloc (.cells [I a1, I a2, I a3].toArray 56)
            have q2 := Box.new (wr.drew.alloc (.cells [I c1, I c2, I c3].toArray 56)) [I a1, I a2, I a3] 56
            simp only [World.size_alloc, World.size_drew] at q1 q2
            go_wp2_with (fail)
            go_meet
            exact ⟨_, _, rfl, rfl, Lib.hid (by (repeat' (first | assumption | exact Below.refl _ _ | refine Below.drew ?_ | refine below_drewN ?_ _ | refine Below.setCell ?_ (by first | omega | (simp; done) | (simp; omega)) _ | refine Below.alloc ?_ (by first | omega | (simp; done) | (simp; omega)) _ | refine Below.trans ?_ (Below.mono (by assumption) (by first | omega | (simp; done) | (simp; omega)))))), Lib.hid q2, Lib.hid q1, by omega, by omega⟩
        case rest =>
          obtain ⟨g1, g2, rfl, rfl, HBx, HX1, HX2, hg1, hg2⟩ := hcut
          have hkx := HOX.out.k
          have hky := HOY.out.k
          dsimp only at hkx hky
          obtain ⟨a2, rfl⟩ : ∃ n : Nat, a2 = n := ⟨a2.toNat, by omega⟩
          obtain ⟨c2, rfl⟩ : ∃ n : Nat, c2 = n := ⟨c2.toNat, by omega⟩
          rw [Int.toNat_natCast] at hkx hky
          obtain ⟨tb, tf, hA2, htb, htc⟩ := (HVI.out wr HB.out).tr (by omega)
          subst hA2
          have t1 := (htc a2 hkx.2).1
          have t2 := (htc c2 hky.2).1
          have hfa := v.far_at hkx.2
          have hfc := v.far_at hky.2
          obtain ⟨fa, hfa2⟩ : ∃ z, (v.tr[a2]'hkx.2).1 = z := ⟨_, rfl⟩
          obtain ⟨fc, hfc2⟩ : ∃ z, (v.tr[c2]'hky.2).1 = z := ⟨_, rfl⟩
          rw [hfa2] at t1
          rw [hfc2] at t2
          have HFR : Hid (free2 v (a1, (a2 : Int), a3) (c1, (c2 : Int), c3) = (decide (a1 = c1) && !decide ((a2 : Int) = (c2 : Int)) && !decide (fa = fc))) := Lib.hid (by unfold free2; dsimp only; rw [Int.toNat_natCast, Int.toNat_natCast, hfa, hfc, hfa2, hfc2])
          have na0 : (0 : Int) ≤ (a2 : Int) := by omega
          have na1 : (a2 : Int) < (v.tr.length : Int) := by omega
          have nc0 : (0 : Int) ≤ (c2 : Int) := by omega
          have nc1 : (c2 : Int) < (v.tr.length : Int) := by omega
          have HCW : Hid (∀ W, Below wc.heap.size wc W → (W.cell? ⟨g1, 0, none⟩ = some (I a1) ∧ W.cell? ⟨g1, 1, none⟩ = some (I a2)) ∧ (W.cell? ⟨g2, 0, none⟩ = some (I c1) ∧ W.cell? ⟨g2, 1, none⟩ = some (I c2)) ∧ W.cell? ⟨w.heap.size, 1, none⟩ = some (.slice (some ⟨tb, tf, none⟩) v.tr.length q2) ∧ W.cell? ⟨tb, tf + a2 * 4, none⟩ = some (I fa) ∧ W.cell? ⟨tb, tf + c2 * 4, none⟩ = some (I fc)) := Lib.hid fun W h => by
            have hb := HBx.out.trans (h.mono HBx.out.size)
            have h1 := HX1.out.call h
            have h2 := HX2.out.call h
            refine ⟨⟨(h1.at_ 0 _ rfl).1, (h1.at_ 1 _ rfl).1⟩, ⟨(h2.at_ 0 _ rfl).1, (h2.at_ 1 _ rfl).1⟩, (HX.out W (HB.out.trans (hb.mono HB.out.size))).1.2.1, (hb.cell (p := ⟨tb, _, none⟩) htb).trans t1, (hb.cell (p := ⟨tb, _, none⟩) htb).trans t2⟩
          clear hfa hfc hfa2 hfc2 t1 t2 htc hkx hky x0 x1 x2
          go_wp2_with (fail)
          by_cases e1 : a1 = c1
          · subst e1
            by_cases e2 : a2 = c2
            · subst e2
              refine (wpIn_wide (n := 9)).1 ?_
              refine wpIn_region_valsB [some 88, some 89, some 90, some 91, some 92, some 93, some 94, some 95, some 96, some 97, some 98, some 99, some 100, some 101, some 102, some 103, some 104, some 105, some 106, some 107, some 108, some 109, some 110, some 111, some 112, some 113, some 114, some 115, some 116]
                (nthV [.pointer (some ⟨g1, 0, none⟩), I a1, .pointer (some ⟨g2, 0, none⟩), I a1, .bool true, .bool true, .pointer (some ⟨g1, 1, none⟩), I a2, .pointer (some ⟨g2, 1, none⟩), I a2, .bool false, .bool false, .bool false, undef, undef, undef, undef, undef, undef, undef, undef, undef, undef, undef, undef, undef, undef, undef, .bool false])
                [(14, ptr g1), (15, ptr g2), (4, .pointer (some ⟨w.heap.size, 0, none⟩))]
                (fun W => Below wc.heap.size wc W) rfl (by kernel_rfl) (fun _ => trivial) (by kernel_rfl) (by kernel_rfl) (by kernel_rfl) ⟨rfl, rfl, rfl, trivial⟩ (fun _ d _ _ _ h => by cases d <;> exact h) (Below.refl _ _).drew ?_ ?_
              · refine ⟨?_, ?_, ?_, ?_, ?_, ?_, ?_, ?_, ?_, ?_, ?_, ?_, ?_, ?_, ?_, ?_, ?_, ?_, ?_, ?_, ?_, ?_, ?_, ?_, ?_, ?_, ?_, ?_, ?_, trivial⟩
                all_goals (intro x0 W hC; obtain ⟨⟨n0, n1⟩, ⟨n2, n3⟩, n4, n5, n6⟩ := HCW.out _ hC)
                all_goals first
                  | (refine e_no rfl ?_; rfl)
                  | (refine e_yes rfl ?_; intro b e hb K hK)
                all_goals first
                  | (refine opE_li rfl hb ?_; simp only [execOp, resolve, Oper.about, envB, lookB, lookV, nthV, List.map_toArray, List.map_cons, List.map_nil, Nat.reduceEqDiff, reduceIte, Nat.succ_ne_zero, Nat.zero_ne_one, Nat.one_ne_zero, Nat.reduceAdd, Nat.zero_add]; go_simp; exact hK _ hC)
              (intro W hC; have HC := Lib.hid hC; clear hC; simp only [putD, nthV, Act.put, List.setIfInBounds_toArray, List.set_cons_succ, List.set_cons_zero, Nat.zero_add, Nat.reduceAdd])
              have hBW := HBx.out.trans (HC.out.mono HBx.out.size)
              go_wp2_with (fail)
              go_roundw
              case rel => exact ⟨k + 1, lj, by go_num, by omega, HPm, HGj, Lib.hid (HBj.out.trans (hBW.mono HBj.out.size)), Lib.hid (grown_own HOj.out hBW)⟩
              case measure => first | (simp [intOf]; done) | (simp [intOf]; omega)
            · have e2i : ¬ (a2 : Int) = (c2 : Int) := by omega
              have hq2 : ((a2 : Int) != (c2 : Int)) = true := bne_iff_ne.2 e2i
              by_cases e3 : fa = fc
              · subst e3
                refine (wpIn_wide (n := 9)).1 ?_
                refine wpIn_region_valsB [some 88, some 89, some 90, some 91, some 92, some 93, some 94, some 95, some 96, some 97, some 98, some 99, some 100, some 101, some 102, some 103, some 104, some 105, some 106, some 107, some 108, some 109, some 110, some 111, some 112, some 113, some 114, some 115, some 116]
                  (nthV [.pointer (some ⟨g1, 0, none⟩), I a1, .pointer (some ⟨g2, 0, none⟩), I a1, .bool true, .bool true, .pointer (some ⟨g1, 1, none⟩), I a2, .pointer (some ⟨g2, 1, none⟩), I c2, .bool true, .bool true, .bool true, .pointer (some ⟨w.heap.size, 1, none⟩), .slice (some ⟨tb, tf, none⟩) v.tr.length q2, .pointer (some ⟨g1, 1, none⟩), I a2, .pointer (some ⟨tb, tf + a2 * 4, none⟩), .pointer (some ⟨tb, tf + a2 * 4, none⟩), I fa, .pointer (some ⟨w.heap.size, 1, none⟩), .slice (some ⟨tb, tf, none⟩) v.tr.length q2, .pointer (some ⟨g2, 1, none⟩), I c2, .pointer (some ⟨tb, tf + c2 * 4, none⟩), .pointer (some ⟨tb, tf + c2 * 4, none⟩), I fa, .bool false, .bool false])
                  [(14, ptr g1), (15, ptr g2), (4, .pointer (some ⟨w.heap.size, 0, none⟩))]
                  (fun W => Below wc.heap.size wc W) rfl (by kernel_rfl) (fun _ => trivial) (by kernel_rfl) (by kernel_rfl) (by kernel_rfl) ⟨rfl, rfl, rfl, trivial⟩ (fun _ d _ _ _ h => by cases d <;> exact h) (Below.refl _ _).drew ?_ ?_
                · refine ⟨?_, ?_, ?_, ?_, ?_, ?_, ?_, ?_, ?_, ?_, ?_, ?_, ?_, ?_, ?_, ?_, ?_, ?_, ?_, ?_, ?_, ?_, ?_, ?_, ?_, ?_, ?_, ?_, ?_, trivial⟩
                  all_goals (intro x0 W hC; obtain ⟨⟨n0, n1⟩, ⟨n2, n3⟩, n4, n5, n6⟩ := HCW.out _ hC)
                  all_goals first
                    | (refine e_no rfl ?_; rfl)
                    | (refine e_yes rfl ?_; intro b e hb K hK)
                  all_goals first
                    | (refine opE_li rfl hb ?_; simp only [execOp, resolve, Oper.about, envB, lookB, lookV, nthV, List.map_toArray, List.map_cons, List.map_nil, Nat.reduceEqDiff, reduceIte, Nat.succ_ne_zero, Nat.zero_ne_one, Nat.one_ne_zero, Nat.reduceAdd, Nat.zero_add]; go_simp; exact hK _ hC)
                (intro W hC; have HC := Lib.hid hC; clear hC; simp only [putD, nthV, Act.put, List.setIfInBounds_toArray, List.set_cons_succ, List.set_cons_zero, Nat.zero_add, Nat.reduceAdd])
                have hBW := HBx.out.trans (HC.out.mono HBx.out.size)
                go_wp2_with (fail)
                go_roundw
                case rel => exact ⟨k + 1, lj, by go_num, by omega, HPm, HGj, Lib.hid (HBj.out.trans (hBW.mono HBj.out.size)), Lib.hid (grown_own HOj.out hBW)⟩
                case measure => first | (simp [intOf]; done) | (simp [intOf]; omega)
              · have hq3 : (fa != fc) = true := bne_iff_ne.2 e3
                have HF1 : Hid (free2 v (a1, (a2 : Int), a3) (a1, (c2 : Int), c3) = true) := Lib.hid (by rw [HFR.out, decide_eq_true (rfl : a1 = a1), decide_eq_false e2i, decide_eq_false e3]; rfl)
                refine (wpIn_wide (n := 9)).1 ?_
                refine wpIn_region_valsB [some 88, some 89, some 90, some 91, some 92, some 93, some 94, some 95, some 96, some 97, some 98, some 99, some 100, some 101, some 102, some 103, some 104, some 105, some 106, some 107, some 108, some 109, some 110, some 111, some 112, some 113, some 114, some 115, some 116]
                  (nthV [.pointer (some ⟨g1, 0, none⟩), I a1, .pointer (some ⟨g2, 0, none⟩), I a1, .bool true, .bool true, .pointer (some ⟨g1, 1, none⟩), I a2, .pointer (some ⟨g2, 1, none⟩), I c2, .bool true, .bool true, .bool true, .pointer (some ⟨w.heap.size, 1, none⟩), .slice (some ⟨tb, tf, none⟩) v.tr.length q2, .pointer (some ⟨g1, 1, none⟩), I a2, .pointer (some ⟨tb, tf + a2 * 4, none⟩), .pointer (some ⟨tb, tf + a2 * 4, none⟩), I fa, .pointer (some ⟨w.heap.size, 1, none⟩), .slice (some ⟨tb, tf, none⟩) v.tr.length q2, .pointer (some ⟨g2, 1, none⟩), I c2, .pointer (some ⟨tb, tf + c2 * 4, none⟩), .pointer (some ⟨tb, tf + c2 * 4, none⟩), I fc, .bool true, .bool true])
                  [(14, ptr g1), (15, ptr g2), (4, .pointer (some ⟨w.heap.size, 0, none⟩))]
                  (fun W => Below wc.heap.size wc W) rfl (by kernel_rfl) (fun _ => trivial) (by kernel_rfl) (by kernel_rfl) (by kernel_rfl) ⟨rfl, rfl, rfl, trivial⟩ (fun _ d _ _ _ h => by cases d <;> exact h) (Below.refl _ _).drew ?_ ?_
                · refine ⟨?_, ?_, ?_, ?_, ?_, ?_, ?_, ?_, ?_, ?_, ?_, ?_, ?_, ?_, ?_, ?_, ?_, ?_, ?_, ?_, ?_, ?_, ?_, ?_, ?_, ?_, ?_, ?_, ?_, trivial⟩
                  all_goals (intro x0 W hC; obtain ⟨⟨n0, n1⟩, ⟨n2, n3⟩, n4, n5, n6⟩ := HCW.out _ hC)
                  all_goals first
                    | (refine e_no rfl ?_; rfl)
                    | (refine e_yes rfl ?_; intro b e hb K hK)
                  all_goals first
                    | (refine opE_li rfl hb ?_; simp only [execOp, resolve, Oper.about, envB, lookB, lookV, nthV, List.map_toArray, List.map_cons, List.map_nil, Nat.reduceEqDiff, reduceIte, Nat.succ_ne_zero, Nat.zero_ne_one, Nat.one_ne_zero, Nat.reduceAdd, Nat.zero_add]; go_simp; exact hK _ hC)
                (intro W hC; have HC := Lib.hid hC; clear hC; simp only [putD, nthV, Act.put, List.setIfInBounds_toArray, List.set_cons_succ, List.set_cons_zero, Nat.zero_add, Nat.reduceAdd])
                have hBW := HBx.out.trans (HC.out.mono HBx.out.size)
                have HOW := Lib.hid (grown_own HOj.out hBW)
                have HY1 := Lib.hid (HX1.out.call HC.out)
                have HY2 := Lib.hid (HX2.out.call HC.out)
                obtain ⟨⟨u1, u2, u3⟩, u4, u5, u6⟩ := HCE.out W hBW
                have f1 := HOW.out.frozenAt (i * 3)
                have f2 := HOW.out.frozenAt (i * 3 + 1)
                have f3 := HOW.out.frozenAt (i * 3 + 2)
                have hgg1 : g ≠ g1 := by omega
                have hgg2 : g ≠ g2 := by omega
                have HBB : Hid (∀ V, Box V g1 [I a1, I a2, I a3] ∧ Box V g2 [I a1, I c2, I c3] → (V.cell? ⟨g1, 0, none⟩ = some (I a1) ∧ V.cell? ⟨g1, 1, none⟩ = some (I a2) ∧ V.cell? ⟨g1, 2, none⟩ = some (I a3)) ∧ V.cell? ⟨g2, 0, none⟩ = some (I a1) ∧ V.cell? ⟨g2, 1, none⟩ = some (I c2) ∧ V.cell? ⟨g2, 2, none⟩ = some (I c3)) := Lib.hid fun V h => ⟨⟨(h.1.at_ 0 _ rfl).1, (h.1.at_ 1 _ rfl).1, (h.1.at_ 2 _ rfl).1⟩, (h.2.at_ 0 _ rfl).1, (h.2.at_ 1 _ rfl).1, (h.2.at_ 2 _ rfl).1⟩
                go_wp2_with (fail)
                refine (wpIn_wide (n := 9)).1 ?_
                refine wpIn_region_plan (Plan.ons [0, 1, 2, 3, 4, 5, 6, 7, 8, 9, 10] .fin) [0, 1, 2, 3, 4, 5, 6, 7, 9] (fun V => Box V g1 [I a1, I a2, I a3] ∧ Box V g2 [I a1, I c2, I c3]) [] rfl (by kernel_rfl) (by kernel_rfl) (fun _ d _ _ _ h => by cases d <;> exact h) ⟨HY1.out.drew, HY2.out.drew⟩ ?_
                (refine ordQ_held (.slice (some ⟨g, 0, none⟩) l.length co) rfl rfl rfl rfl (fun W' hC' => ?_) (fun K hK => ?_); (focus (obtain ⟨⟨r0, r1, r2⟩, r3, r4, r5⟩ := HBB.out _ hC'; go_simp; try exact ⟨rfl, rfl⟩)); go_simp; refine hK _ ?_; clear hK K)
                (refine ordQ_held (I k) rfl rfl rfl rfl (fun W' hC' => ?_) (fun K hK => ?_); (focus (obtain ⟨⟨r0, r1, r2⟩, r3, r4, r5⟩ := HBB.out _ hC'; go_simp; try exact ⟨rfl, rfl⟩)); go_simp; refine hK _ ?_; clear hK K)
                (refine ordQ_held (I i) rfl rfl rfl rfl (fun W' hC' => ?_) (fun K hK => ?_); (focus (obtain ⟨⟨r0, r1, r2⟩, r3, r4, r5⟩ := HBB.out _ hC'; go_simp; try exact ⟨rfl, rfl⟩)); go_simp; refine hK _ ?_; clear hK K)
                (refine ordQ_held (.slice (some ⟨g, 0, none⟩) l.length co) rfl rfl rfl rfl (fun W' hC' => ?_) (fun K hK => ?_); (focus (obtain ⟨⟨r0, r1, r2⟩, r3, r4, r5⟩ := HBB.out _ hC'; go_simp; try exact ⟨rfl, rfl⟩)); go_simp; refine hK _ ?_; clear hK K)
                (refine ordQ_held (I k) rfl rfl rfl rfl (fun W' hC' => ?_) (fun K hK => ?_); (focus (obtain ⟨⟨r0, r1, r2⟩, r3, r4, r5⟩ := HBB.out _ hC'; go_simp; try exact ⟨rfl, rfl⟩)); go_simp; refine hK _ ?_; clear hK K)
                (refine ordQ_held (.agg #[I a1, I c2, I c3]) rfl rfl rfl rfl (fun W' hC' => ?_) (fun K hK => ?_); (focus (obtain ⟨⟨r0, r1, r2⟩, r3, r4, r5⟩ := HBB.out _ hC'; go_simp; try exact ⟨rfl, rfl⟩)); go_simp; refine hK _ ?_; clear hK K)
                (refine ordQ_held (.agg #[I a1, I a2, I a3]) rfl rfl rfl rfl (fun W' hC' => ?_) (fun K hK => ?_); (focus (obtain ⟨⟨r0, r1, r2⟩, r3, r4, r5⟩ := HBB.out _ hC'; go_simp; try exact ⟨rfl, rfl⟩)); go_simp; refine hK _ ?_; clear hK K)
                (refine ordQ_held (.pointer (some ⟨g, i * 3, none⟩)) rfl rfl rfl rfl (fun W' hC' => ?_) (fun K hK => ?_); (focus (obtain ⟨⟨r0, r1, r2⟩, r3, r4, r5⟩ := HBB.out _ hC'; go_simp; try exact ⟨rfl, rfl⟩)); go_simp; refine hK _ ?_; clear hK K)
                refine ordQ_hv rfl rfl rfl (fun K hK => ?_)
                gi_wp2
                have hE1 := (((HOW.out.stored (i * 3) (I a1)).1.stored (i * 3 + 1) (I c2)).1.stored (i * 3 + 2) (I c3)).1
                have hBE1 : Below w9.heap.size w9 (((W.setCell ⟨g, i * 3, none⟩ (I a1)).setCell ⟨g, i * 3 + 1, none⟩ (I c2)).setCell ⟨g, i * 3 + 2, none⟩ (I c3)) := ((((HBj.out.trans (hBW.mono HBj.out.size)).setCell (p := ⟨g, i * 3, none⟩) hgb _).setCell (p := ⟨g, i * 3 + 1, none⟩) hgb _).setCell (p := ⟨g, i * 3 + 2, none⟩) hgb _)
                have hX1 : Box (((W.setCell ⟨g, i * 3, none⟩ (I a1)).setCell ⟨g, i * 3 + 1, none⟩ (I c2)).setCell ⟨g, i * 3 + 2, none⟩ (I c3)) g1 [I a1, I a2, I a3] := ((HY1.out.far (p := ⟨g, i * 3, none⟩) hgg1 _).far (p := ⟨g, i * 3 + 1, none⟩) hgg1 _).far (p := ⟨g, i * 3 + 2, none⟩) hgg1 _
                have hX2 : Box (((W.setCell ⟨g, i * 3, none⟩ (I a1)).setCell ⟨g, i * 3 + 1, none⟩ (I c2)).setCell ⟨g, i * 3 + 2, none⟩ (I c3)) g2 [I a1, I c2, I c3] := ((HY2.out.far (p := ⟨g, i * 3, none⟩) hgg2 _).far (p := ⟨g, i * 3 + 1, none⟩) hgg2 _).far (p := ⟨g, i * 3 + 2, none⟩) hgg2 _
                refine hK _ _ (fun _ => ⟨hX1.drew, hX2.drew⟩) ?_
                clear hK K
                have hlE : (((((flat3 lj).set (i * 3) (I a1)).set (i * 3 + 1) (I c2)).set (i * 3 + 2) (I c3))).length = l.length * 3 := by simp [flat3_len, hzl]
                have m1 := (hE1.cellAt (k * 3) (by omega)).trans (List.getElem?_eq_getElem (by omega))
                have m2 := (hE1.cellAt (k * 3 + 1) (by omega)).trans (List.getElem?_eq_getElem (by omega))
                have m3 := (hE1.cellAt (k * 3 + 2) (by omega)).trans (List.getElem?_eq_getElem (by omega))
                have p1 := hE1.frozenAt (k * 3)
                have p2 := hE1.frozenAt (k * 3 + 1)
                have p3 := hE1.frozenAt (k * 3 + 2)
                generalize (((W.setCell ⟨g, i * 3, none⟩ (I a1)).setCell ⟨g, i * 3 + 1, none⟩ (I c2)).setCell ⟨g, i * 3 + 2, none⟩ (I c3)) = E1 at *
                (refine ordQ_held (.pointer (some ⟨g, k * 3, none⟩)) rfl rfl rfl rfl (fun W' hC' => ?_) (fun K hK => ?_); (focus (obtain ⟨⟨r0, r1, r2⟩, r3, r4, r5⟩ := HBB.out _ hC'; go_simp; try exact ⟨rfl, rfl⟩)); go_simp; refine hK _ ?_; clear hK K)
                refine ordQ_hv rfl rfl rfl (fun K hK => ?_)
                gi_wp2
                refine hK _ _ (fun _ => ⟨(((hX1.far (p := ⟨g, k * 3, none⟩) hgg1 _).far (p := ⟨g, k * 3 + 1, none⟩) hgg1 _).far (p := ⟨g, k * 3 + 2, none⟩) hgg1 _).drew, (((hX2.far (p := ⟨g, k * 3, none⟩) hgg2 _).far (p := ⟨g, k * 3 + 1, none⟩) hgg2 _).far (p := ⟨g, k * 3 + 2, none⟩) hgg2 _).drew⟩) ?_
                clear hK K
                refine ordQ_fin ?_
                have hE2 := (((hE1.stored (k * 3) (I a1)).1.stored (k * 3 + 1) (I a2)).1.stored (k * 3 + 2) (I a3)).1
                have hBE2 : Below w9.heap.size w9 (((E1.setCell ⟨g, k * 3, none⟩ (I a1)).setCell ⟨g, k * 3 + 1, none⟩ (I a2)).setCell ⟨g, k * 3 + 2, none⟩ (I a3)) := (((hBE1.setCell (p := ⟨g, k * 3, none⟩) hgb _).setCell (p := ⟨g, k * 3 + 1, none⟩) hgb _).setCell (p := ⟨g, k * 3 + 2, none⟩) hgb _)
                obtain ⟨hs1, hs2, hs3⟩ := HSP.out
                have hsw := flat3_swap ca cb (a1, (a2 : Int), a3) (a1, (c2 : Int), c3) i k hs3 hs1
                rw [← hs2] at hsw
                dsimp only at hsw
                rw [hsw] at hE2
                have HNP : Hid ((ca ++ (a1, (c2 : Int), c3) :: (a1, (a2 : Int), a3) :: cb).Perm l) := Lib.hid ((perm_swap ca cb _ _).trans (by have := HPm.out; rw [hs2] at this; exact this))
                have HNG : Hid (Good v [] (ca ++ (a1, (c2 : Int), c3) :: (a1, (a2 : Int), a3) :: cb)) := Lib.hid (good_swap HV.out (by have := HGj.out; rw [hs2] at this; exact this) HF1.out)
                have HE2 := Lib.hid hE2
                have HBE := Lib.hid hBE2
                clear hE2 hBE2 hs1 hs2 hs3 hsw hE1 hBE1 hX1 hX2 hlE m1 m2 m3 p1 p2 p3
                go_wp2_with (fail)
                go_roundw
                case rel => exact ⟨k + 1, _, by go_num, by omega, HNP, HNG, Lib.hid HBE.out.drew, Lib.hid HE2.out.drew⟩
                case measure => first | (simp [intOf]; done) | (simp [intOf]; omega)
          · have hq1 : (a1 == c1) = false := beq_eq_false_iff_ne.2 e1
            refine (wpIn_wide (n := 9)).1 ?_
            refine wpIn_region_valsB [some 88, some 89, some 90, some 91, some 92, some 93, some 94, some 95, some 96, some 97, some 98, some 99, some 100, some 101, some 102, some 103, some 104, some 105, some 106, some 107, some 108, some 109, some 110, some 111, some 112, some 113, some 114, some 115, some 116]
              (nthV [.pointer (some ⟨g1, 0, none⟩), I a1, .pointer (some ⟨g2, 0, none⟩), I c1, .bool false, .bool false, undef, undef, undef, undef, undef, .bool false, .bool false, undef, undef, undef, undef, undef, undef, undef, undef, undef, undef, undef, undef, undef, undef, undef, .bool false])
              [(14, ptr g1), (15, ptr g2), (4, .pointer (some ⟨w.heap.size, 0, none⟩))]
              (fun W => Below wc.heap.size wc W) rfl (by kernel_rfl) (fun _ => trivial) (by kernel_rfl) (by kernel_rfl) (by kernel_rfl) ⟨rfl, rfl, rfl, trivial⟩ (fun _ d _ _ _ h => by cases d <;> exact h) (Below.refl _ _).drew ?_ ?_
            · refine ⟨?_, ?_, ?_, ?_, ?_, ?_, ?_, ?_, ?_, ?_, ?_, ?_, ?_, ?_, ?_, ?_, ?_, ?_, ?_, ?_, ?_, ?_, ?_, ?_, ?_, ?_, ?_, ?_, ?_, trivial⟩
              all_goals (intro x0 W hC; obtain ⟨⟨n0, n1⟩, ⟨n2, n3⟩, n4, n5, n6⟩ := HCW.out _ hC)
              all_goals first
                | (refine e_no rfl ?_; rfl)
                | (refine e_yes rfl ?_; intro b e hb K hK)
              all_goals first
                | (refine opE_li rfl hb ?_; simp only [execOp, resolve, Oper.about, envB, lookB, lookV, nthV, List.map_toArray, List.map_cons, List.map_nil, Nat.reduceEqDiff, reduceIte, Nat.succ_ne_zero, Nat.zero_ne_one, Nat.one_ne_zero, Nat.reduceAdd, Nat.zero_add]; go_simp; exact hK _ hC)
            (intro W hC; have HC := Lib.hid hC; clear hC; simp only [putD, nthV, Act.put, List.setIfInBounds_toArray, List.set_cons_succ, List.set_cons_zero, Nat.zero_add, Nat.reduceAdd])
            have hBW := HBx.out.trans (HC.out.mono HBx.out.size)
            go_wp2_with (fail)
            go_roundw
            case rel => exact ⟨k + 1, lj, by go_num, by omega, HPm, HGj, Lib.hid (HBj.out.trans (hBW.mono HBj.out.size)), Lib.hid (grown_own HOj.out hBW)⟩
            case measure => first | (simp [intOf]; done) | (simp [intOf]; omega)
      · have k1 : ¬ (k : Int) < (l.length : Int) := by omega
        have hseeO := HOT.out lj HPm.out HGj.out
        rw [hzl] at hseeO
        have HSO := Lib.hid hseeO
        have HTH := Lib.hid (threes_own HOj.out hzl)
        clear HOj HBj HB9 hseeO
        obtain ⟨wo, hwo⟩ : ∃ z, z = wr := ⟨_, rfl⟩
        subst hwo
        go_wp2_with (fail)
        go_loopw [128, 16] (fun i r wr => ∃ (k : Nat) (xs : List Mv), i = I k ∧ k ≤ l.length ∧ Hid (xs = tillM mn (l.take k)) ∧ xs.length ≤ k ∧ Hid (Below wo.heap.size wo wr) ∧ Hid (wr.ownsRow wo.heap.size 56 3 r xs.length (flat3 xs))) (fun i _ _ => l.length - (intOf i).toNat)
        case atStart => exact ⟨0, [], rfl, by omega, Lib.hid rfl, by simp, Lib.hid (Below.refl _ _), Lib.hid (World.ownsRow_nil _ _ _ _)⟩
        case round =>
          obtain ⟨k2, xs, rfl, hk2, HXS, hxl, HB2, HO2⟩ := hrel
          clear x0 x1 x2
          have hz2r := HB2.out.size
          replace HB := Lib.hid (HB.out.trans (HB2.out.mono HB.out.size))
          obtain ⟨⟨x0, x1, x2⟩, _⟩ := HX.out _ HB.out
          by_cases hlt2 : k2 < l.length
          · obtain ⟨lb, lf, hAL, hlb, hlc⟩ := (HX.out _ HB.out).2.2.1 (by omega)
            subst hAL
            obtain ⟨m0, m1, m2⟩ := hlc k2 hlt2
            have HTS := Lib.hid (till_snoc (mn : Int) hlt2)
            obtain ⟨a1, ha1⟩ : ∃ z, l[k2].1 = z := ⟨_, rfl⟩
            obtain ⟨a2, ha2⟩ : ∃ z, l[k2].2.1 = z := ⟨_, rfl⟩
            obtain ⟨a3, ha3⟩ : ∃ z, l[k2].2.2 = z := ⟨_, rfl⟩
            have HLE : Hid (l[k2] = (a1, a2, a3)) := Lib.hid (by rw [← ha1, ← ha2, ← ha3])
            rw [ha1] at m0
            rw [ha2] at m1
            rw [ha3] at m2
            have k20 : (0 : Int) ≤ (k2 : Int) := by omega
            have k21 : (k2 : Int) < (l.length : Int) := by omega
            clear hlc ha1 ha2 ha3
            by_cases hle : a1 ≤ (mn : Int)
            · have hnews : ∀ j u, ([I a1, I a2, I a3] : List Value)[j]? = some u → ((wr.alloc (.cells #[I a1, I a2, I a3] 56)).alloc (.cells #[I a1, I a2, I a3] 56)).cell? ((⟨wr.heap.size + 1, 0, none⟩ : Addr).add j) = some u := by
                have h := cells_new (wr.alloc (.cells #[I a1, I a2, I a3] 56)) [I a1, I a2, I a3] 56
                rw [World.size_alloc] at h
                exact h
              have hown := (HO2.out.alloc (.cells #[I a1, I a2, I a3] 56)).alloc (.cells #[I a1, I a2, I a3] 56)
              have hBn : Below wo.heap.size wo ((wr.alloc (.cells #[I a1, I a2, I a3] 56)).alloc (.cells #[I a1, I a2, I a3] 56)) := (HB2.out.alloc hz2r _).alloc (by simp; omega) _
              have HTS2 : Hid (tillM mn (l.take (k2 + 1)) = tillM mn (l.take k2) ++ [(a1, a2, a3)]) := Lib.hid (by rw [HTS.out, HLE.out]; dsimp only; rw [if_pos hle])
              clear HB2
              go_wp2_with (first
                | (at_builtin; refine wpList_append_any _ rfl _ _ 27 rfl wo.heap.size 56 i0 (.agg #[I 0, I 0, I 0]) 3 24 Tryd.underlying27 hi0 hi1 hi2 hi3 rfl (by decide) _ xs.length (flat3 xs) rfl hown (some ⟨wr.heap.size + 1, 0, none⟩) 1 1 [I a1, I a2, I a3] rfl rfl (fun _ => ⟨_, rfl, hnews⟩) (by simp [Value.oneCell']) (by unfold maxLen; omega) (by omega) hBn.size ?_; intro r1 w1 ho1 hg1; have HB1 := Lib.hid (hBn.grown hg1 hBn.size (fun g e => (hown.lt g e).1)); have HO1 := Lib.hid ho1; clear ho1 hg1 hown hBn hnews)
                | fail)
              go_roundw
              case rel => exact ⟨k2 + 1, xs ++ [(a1, a2, a3)], by go_num, by omega, Lib.hid (by rw [HTS2.out, HXS.out]), by simp; omega, HB1, Lib.hid (by rw [flat3_app]; simpa [flat3] using HO1.out)⟩
              case measure => simp [intOf]; omega
            · have HTS2 : Hid (tillM mn (l.take (k2 + 1)) = tillM mn (l.take k2)) := Lib.hid (by rw [HTS.out, HLE.out]; dsimp only; rw [if_neg hle, List.append_nil])
              have HBq : Hid (Below wo.heap.size wo (wr.alloc (.cells #[I a1, I a2, I a3] 56))) := Lib.hid (HB2.out.alloc hz2r _)
              have HOq := Lib.hid (HO2.out.alloc (.cells #[I a1, I a2, I a3] 56))
              go_wp2_with (fail)
              go_roundw
              case rel => exact ⟨k2 + 1, xs, by go_num, by omega, Lib.hid (by rw [HTS2.out]; exact HXS.out), by omega, HBq, HOq⟩
              case measure => simp [intOf]; omega
          · obtain rfl : k2 = l.length := by omega
            have k21 : ¬ (l.length : Int) < (l.length : Int) := by omega
            have hx := HXS.out
            rw [List.take_length] at hx
            subst hx
            obtain ⟨Af, cf, hr2, hT2⟩ := threes_own HO2.out rfl
            subst hr2
            have HTF := Lib.hid hT2
            obtain ⟨_, _, hr3, hT3⟩ := HTH.out
            simp only [Value.slice.injEq, true_and] at hr3
            obtain ⟨rfl, rfl⟩ := hr3
            have HTO := Lib.hid ((hT3.below HB2.out).more hz2r)
            have H14o : Hid (∀ W, Below w2.heap.size w2 W → Threes W W.heap.size Ao lj → Calls Tryd.prog 14 #[visV v A1 A2 A3 q1 q2 q3, .slice Ao l.length co, I pn, I mn] W fun e w' => e = .returned (.tuple #[I N, I l.length, I 0]) ∧ Below W.heap.size W w') := Lib.hid fun W h h' => by
              have := H14.out Ao lj co W h h'
              rw [hzl, HSO.out] at this
              exact this
            have H14f : Hid (∀ W, Below w2.heap.size w2 W → Threes W W.heap.size Af (tillM mn l) → Calls Tryd.prog 14 #[visV v A1 A2 A3 q1 q2 q3, .slice Af (tillM mn l).length cf, I pn, I mn] W fun e w' => e = .returned (.tuple #[I N, I (tillM mn l).length, I 0]) ∧ Below W.heap.size W w') := Lib.hid fun W h h' => by
              have := H14.out Af (tillM mn l) cf W h h'
              rw [HFI.out] at this
              exact this
            obtain ⟨rb, ro, hA1, hrb, hrc⟩ := (HX.out _ HB.out).2.1.rm (by have : pn < v.rm.length := hpn; omega)
            subst hA1
            have hpn' : pn < v.rm.length := hpn
            have rc := hrc pn hpn'
            have hro : v.rm[pn] = v.room pn := by simp [Vis.room, List.getD_eq_getElem?_getD, hpn']
            rw [hro] at rc
            have HRC : Hid (∀ W, Below wr.heap.size wr W → W.cell? ⟨rb, ro + pn, none⟩ = some (I (v.room pn))) := Lib.hid fun W h => (h.cell (p := ⟨rb, _, none⟩) hrb).trans rc
            have HBz := Lib.hid (Below.refl wr.heap.size wr)
            have p0 : (0 : Int) ≤ (pn : Int) := by omega
            have p1 : (pn : Int) < (v.rm.length : Int) := by omega
            clear hT2 hT3 hrc rc hro HTH HO2 HXS HB2 HOT HFI H14
            go_wp2_with (first
              | (go_at_call 14; refine (H14o.out _ HB.out HTO.out).mono ?_; rintro e w6 ⟨rfl, hB⟩; clear H14o; replace HBz := Lib.hid (HBz.out.trans (hB.mono HBz.out.size)); replace HTF := Lib.hid ((HTF.out.below hB).more hB.size); replace HB := Lib.hid (HB.out.trans (hB.mono HB.out.size)); clear x0 x1 x2; obtain ⟨⟨x0, x1, x2⟩, _⟩ := HX.out _ HB.out; clear hB)
              | (go_at_call 14; refine (H14f.out _ HB.out HTF.out).mono ?_; rintro e w7 ⟨rfl, hB⟩; replace HBz := Lib.hid (HBz.out.trans (hB.mono HBz.out.size)); have rcz := HRC.out _ HBz.out; replace HB := Lib.hid (HB.out.trans (hB.mono HB.out.size)); clear x0 x1 x2; obtain ⟨⟨x0, x1, x2⟩, _⟩ := HX.out _ HB.out; clear hB)
              | (go_at_call 13; refine (H13.out _ (HX.out _ HB.out).2.2.2.1).mono ?_; rintro e w9 ⟨rfl, hB⟩; replace HB := Lib.hid (HB.out.trans (hB.mono HB.out.size)); clear x0 x1 x2; obtain ⟨⟨x0, x1, x2⟩, _⟩ := HX.out _ HB.out; clear hB)
              | fail)
            all_goals (refine bodyPost_ret (v := .bool true) ?_ rfl ⟨rfl, (HX.out _ HB.out).2.2.2.2⟩; simp [results, Tryd.results8, go_sem]; done)
  · obtain ⟨hb1, hb2, hb3⟩ := see_bad hE
    obtain ⟨N, hN⟩ : ∃ z, (seeV v l p m).1 = z := ⟨_, rfl⟩
    obtain ⟨K, hK⟩ : ∃ z, (seeV v l p m).2.1 = z := ⟨_, rfl⟩
    obtain ⟨E, hEE⟩ : ∃ z, (seeV v l p m).2.2 = z := ⟨_, rfl⟩
    rw [hN, hK, hEE] at H14a
    rw [hN] at hb1
    rw [hK] at hb2 hb3
    rw [hEE] at hE
    subst hb1
    clear hN hK hEE
    go_enter Tryd.func8, Tryd.ntmps8
    go_wp2_with (first
      | (go_at_call 12; refine (H12.out _).mono ?_; rintro e w3 ⟨b, rfl, hb, hB⟩; replace HB := Lib.hid (HB.out.trans (hB.mono HB.out.size)); clear x0 x1 x2; obtain ⟨⟨x0, x1, x2⟩, _⟩ := HX.out _ HB.out; clear hB hb)
      | (go_at_call 13; refine (H13.out _ (HX.out _ HB.out).2.2.2.1).mono ?_; rintro e w9 ⟨rfl, hB⟩; replace HB := Lib.hid (HB.out.trans (hB.mono HB.out.size)); clear x0 x1 x2; obtain ⟨⟨x0, x1, x2⟩, _⟩ := HX.out _ HB.out; clear hB)
      | (go_at_call 14; refine (H14a.out _ HB.out).mono ?_; rintro e w4 ⟨rfl, hB⟩; replace HB := Lib.hid (HB.out.trans (hB.mono HB.out.size)); clear x0 x1 x2; obtain ⟨⟨x0, x1, x2⟩, _⟩ := HX.out _ HB.out; clear hB)
      | fail)
    all_goals (refine bodyPost_ret (v := .bool true) ?_ rfl ⟨rfl, (HX.out _ HB.out).2.2.2.2⟩; simp [results, Tryd.results8, go_sem]; done)
end Go.Proofs.YtomfnldlnoiloaaDoor
