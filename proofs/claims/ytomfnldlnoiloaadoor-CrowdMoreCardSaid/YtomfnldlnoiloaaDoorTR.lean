/- CrowdMore: the walk. Printed by mkTR.py. -/
import Derived.Test.YtomfnldlnoiloaaDoorF2
import Derived.Test.YtomfnldlnoiloaaDoorF3
import Derived.Test.YtomfnldlnoiloaaDoorV4
import Derived.Test.YtomfnldlnoiloaaDoorC23
import Derived.Test.YtomfnldlnoiloaaDoorCs
namespace Go.Proofs.YtomfnldlnoiloaaDoor
set_option linter.unusedVariables false
set_option linter.unusedSimpArgs false
open Go Go.RowKit Go.Maps

theorem err_two {v v' : Vis} {p m : Int} (h : errN v p m = 0) (hn : v'.rm.length = v.rm.length) : (visB v' = true ∧ errN v' p m = 0) ∨ (visB v' = false ∧ errN v' p m = 1) := by
  unfold errN at h ⊢
  cases hb : visB v' with
  | true =>
    left
    rw [if_pos rfl, hn]
    split at h
    · exact ⟨rfl, h⟩
    · cases h
  | false => right; exact ⟨rfl, by simp⟩
/-- People of an arrival, with more. -/
def manF (by_ : Int) (i : Nat) (x : Int) : Int := min 1000 (x + by_.tmod ((i : Int) + 2))
abbrev manH (by_ : Int) (i : Nat) (a : Int × Int × Int) : Int × Int × Int := (a.1, a.2.1, manF by_ i a.2.2)
theorem tmod_two {b : Int} (h : 0 ≤ b) (h2 : b ≤ 255) (i : Nat) : 0 ≤ b.tmod ((i : Int) + 2) ∧ b.tmod ((i : Int) + 2) ≤ 255 := by
  obtain ⟨n, rfl⟩ : ∃ n : Nat, b = n := ⟨b.toNat, by omega⟩
  have e : ((n : Int)).tmod ((i : Int) + 2) = ((n % (i + 2) : Nat) : Int) := rfl
  rw [e]
  have := Nat.mod_le n (i + 2)
  omega
abbrev dblR (_ : Nat) (r : Int) : Int := r * 2
abbrev dblT (_ : Nat) (x : Int × Int × Int × Int) : Int × Int × Int × Int := (x.1, x.2.1, x.2.2.1, x.2.2.2 * 2)
abbrev dblA (_ : Nat) (a : Int × Int × Int) : Int × Int × Int := (a.1, a.2.1, a.2.2 * 2)
theorem mapIdx_map {α : Type} (f : α → α) (l : List α) : l.mapIdx (fun _ x => f x) = l.map f := by
  apply List.ext_getElem
  · simp
  · intro i h1 h2
    simp
set_option maxRecDepth 100000 in
set_option maxHeartbeats 16000000 in
theorem more_any (v : Vis) (A1 A2 A3 : Option Addr) (q1 q2 q3 : Nat) (p m s1 s2 s3 s4 wh by_ : Int) (w : World) (hG : GlobOk w) (hI : VisAt w w.heap.size v A1 A2 A3) (h64 : Vis64 v) (hwh0 : 0 ≤ wh) (hwh1 : wh ≤ 255) (hby0 : 0 ≤ by_) (hby1 : by_ ≤ 255) (hbig : v.rm.length + v.tr.length + v.ar.length ≤ 1000000000000000) :
    Calls Tryd.prog 7 #[visV v A1 A2 A3 q1 q2 q3, I p, I m, .agg #[I s1, I s2, I s3, I s4], .int .u8 wh, .int .u8 by_] w fun e w' => e = .returned (.bool true) ∧ Below w.heap.size w w' := by
  obtain ⟨w2, hw2⟩ : ∃ w2, (w.alloc (.cells #[.slice A1 v.rm.length q1, .slice A2 v.tr.length q2, .slice A3 v.ar.length q3] 26)).alloc (.cells #[I s1, I s2, I s3, I s4] 51) = w2 := ⟨_, rfl⟩
  have hz2 : w2.heap.size = w.heap.size + 2 := by rw [← hw2]; simp
  have hB2 : Below w.heap.size w w2 := by rw [← hw2]; (repeat' (first | assumption | exact Below.refl _ _ | refine Below.drew ?_ | refine below_drewN ?_ _ | refine Below.setCell ?_ (by first | omega | (simp; done) | (simp; omega)) _ | refine Below.alloc ?_ (by first | omega | (simp; done) | (simp; omega)) _ | refine Below.trans ?_ (Below.mono (by assumption) (by first | omega | (simp; done) | (simp; omega)))))
  have b1 : Box w2 w.heap.size [.slice A1 v.rm.length q1, .slice A2 v.tr.length q2, .slice A3 v.ar.length q3] := by rw [← hw2]; exact (Box.new w [.slice A1 v.rm.length q1, .slice A2 v.tr.length q2, .slice A3 v.ar.length q3] 26).alloc _
  have b2 : Box w2 (w.heap.size + 1) [I s1, I s2, I s3, I s4] := by
    have h := Box.new (w.alloc (.cells #[.slice A1 v.rm.length q1, .slice A2 v.tr.length q2, .slice A3 v.ar.length q3] 26)) [I s1, I s2, I s3, I s4] 51
    rw [World.size_alloc] at h
    rw [← hw2]; exact h
  have HX : Hid (∀ W, Below w2.heap.size w2 W → (W.cell? ⟨w.heap.size, 0, none⟩ = some (.slice A1 v.rm.length q1) ∧ W.cell? ⟨w.heap.size, 1, none⟩ = some (.slice A2 v.tr.length q2) ∧ W.cell? ⟨w.heap.size, 2, none⟩ = some (.slice A3 v.ar.length q3)) ∧ (VisAt W W.heap.size v A1 A2 A3 ∧ GlobOk W ∧ Below w.heap.size w W) ∧
      (W.cell? ⟨w.heap.size + 1, 0, none⟩ = some (I s1) ∧ W.cell? ⟨w.heap.size + 1, 1, none⟩ = some (I s2) ∧ W.cell? ⟨w.heap.size + 1, 2, none⟩ = some (I s3) ∧ W.cell? ⟨w.heap.size + 1, 3, none⟩ = some (I s4))) := Lib.hid fun W h => by
    have hb := hB2.trans (h.mono hB2.size)
    have c1 := b1.call h
    have c2 := b2.call h
    exact ⟨⟨(c1.at_ 0 _ rfl).1, (c1.at_ 1 _ rfl).1, (c1.at_ 2 _ rfl).1⟩, ⟨(hI.below hb).more hb.size, hG.below hb hG.z, hb⟩, (c2.at_ 0 _ rfl).1, (c2.at_ 1 _ rfl).1, (c2.at_ 2 _ rfl).1, (c2.at_ 3 _ rfl).1⟩
  have HB := Lib.hid (Below.refl w2.heap.size w2)
  obtain ⟨⟨x0, x1, x2⟩, -⟩ := HX.out w2 HB.out
  have H12 : Hid (∀ W, Calls Tryd.prog 12 #[visV v A1 A2 A3 q1 q2 q3] W (RetFew (v.rm.length + v.tr.length + v.ar.length ≤ 40) W)) := Lib.hid fun W => great12 v A1 A2 A3 q1 q2 q3 W hbig
  have H13 : Hid (∀ W, GlobOk W → Calls Tryd.prog 13 #[] W fun e w' => e = .returned (.bool true) ∧ Below W.heap.size W w') := Lib.hid alive13
  have H21 : Hid (∀ W, Below w2.heap.size w2 W → Calls Tryd.prog 21 #[visV v A1 A2 A3 q1 q2 q3, I p, I m] W fun e w' => e = .returned (I (errN v p m)) ∧ Below W.heap.size W w') := Lib.hid fun W h => errors21 v h64 A1 A2 A3 q1 q2 q3 p m W (HX.out W h).2.1.1
  by_cases hm30 : (30 : Int) < m
  · clear b1 b2 hB2 hI hG h64 hbig
    go_enter Tryd.func7, Tryd.ntmps7
    go_wp2_with (first
      | (go_at_call 12; refine (H12.out _).mono ?_; rintro e w3 ⟨b, rfl, hb, hB⟩; replace HB := Lib.hid (HB.out.trans (hB.mono HB.out.size)); clear x0 x1 x2; obtain ⟨⟨x0, x1, x2⟩, -⟩ := HX.out _ HB.out; clear hB hb)
      | (go_at_call 13; refine (H13.out _ (HX.out _ HB.out).2.1.2.1).mono ?_; rintro e w9 ⟨rfl, hB⟩; replace HB := Lib.hid (HB.out.trans (hB.mono HB.out.size)); clear x0 x1 x2; obtain ⟨⟨x0, x1, x2⟩, -⟩ := HX.out _ HB.out; clear hB)
      | fail)
    all_goals (refine bodyPost_ret (v := .bool true) ?_ rfl ⟨rfl, (HX.out _ HB.out).2.1.2.2⟩; simp [results, Tryd.results7, go_sem]; done)
  by_cases he : errN v p m = 0
  · obtain ⟨hv, hp, hm0, hm60⟩ := err_zero he
    obtain ⟨pn, rfl⟩ : ∃ n : Nat, p = n := ⟨p.toNat, by omega⟩
    obtain ⟨mn, rfl⟩ : ∃ n : Nat, m = n := ⟨m.toNat, by omega⟩
    have hpn : pn < v.n := by omega
    have hpn' : pn < v.rm.length := hpn
    have hn := hv.n
    unfold Vis.n at hn
    have htl := hv.tl
    have hal := hv.al
    have HV := Lib.hid hv
    have HE := Lib.hid he
    have H16 : Hid (∀ W, Below w2.heap.size w2 W → Calls Tryd.prog 16 #[visV v A1 A2 A3 q1 q2 q3, I pn, I mn] W fun e w' => ∃ val : Int, e = .returned (.tuple #[I val, I 0]) ∧ (∃ R, MostIs v pn mn val R) ∧ Below W.heap.size W w') := Lib.hid fun W h => by
      refine (most16 v h64 A1 A2 A3 q1 q2 q3 pn mn W (HX.out W h).2.1.1 (HX.out W h).2.1.2.1).mono ?_
      rintro e w' ⟨val, h1, h2, h3⟩
      rw [he] at h1
      exact ⟨val, h1, h2.1 he, h3⟩
    have H23 : Hid (∀ W, Below w2.heap.size w2 W → v.rm.length + v.tr.length + v.ar.length ≤ 40 → Calls Tryd.prog 23 #[visV v A1 A2 A3 q1 q2 q3] W fun e w' => (∃ B1 B2 B3 c1 c2 c3, e = .returned (visV v B1 B2 B3 c1 c2 c3) ∧ Rows3 W.heap.size v B1 B2 B3 c1 c2 c3 w') ∧ Below W.heap.size W w') := Lib.hid fun W h h40 => copied23 v h40 A1 A2 A3 q1 q2 q3 W (HX.out W h).2.1.1
    rw [he] at H21
    obtain ⟨j0, hj0, hj1, hj2, hj3⟩ := info_parts info51
    have h40 : v.rm.length + v.tr.length + v.ar.length ≤ 40 := by omega
    clear b1 b2 hB2 hI hG h64 hbig he hv
    go_enter Tryd.func7, Tryd.ntmps7
    go_upto_region 9 with (first
      | (go_at_call 12; refine (H12.out _).mono ?_; rintro e w3 ⟨b, rfl, hb, hB⟩; replace HB := Lib.hid (HB.out.trans (hB.mono HB.out.size)); clear x0 x1 x2; obtain ⟨⟨x0, x1, x2⟩, -⟩ := HX.out _ HB.out; clear hB hb)
      | (go_at_call 13; refine (H13.out _ (HX.out _ HB.out).2.1.2.1).mono ?_; rintro e w9 ⟨rfl, hB⟩; replace HB := Lib.hid (HB.out.trans (hB.mono HB.out.size)); clear x0 x1 x2; obtain ⟨⟨x0, x1, x2⟩, -⟩ := HX.out _ HB.out; clear hB)
      | (go_at_call 16; refine (H16.out _ HB.out).mono ?_; rintro e w4 ⟨nn, rfl, hM, hB⟩; have HM := Lib.hid hM; replace HB := Lib.hid (HB.out.trans (hB.mono HB.out.size)); clear x0 x1 x2; obtain ⟨⟨x0, x1, x2⟩, -⟩ := HX.out _ HB.out; clear hB hM)
      | (go_at_call 21; refine (H21.out _ HB.out).mono ?_; rintro e w5 ⟨rfl, hB⟩; replace HB := Lib.hid (HB.out.trans (hB.mono HB.out.size)); clear x0 x1 x2; obtain ⟨⟨x0, x1, x2⟩, -⟩ := HX.out _ HB.out; clear hB)
      | fail)
    all_goals first | (refine bodyPost_ret (v := .bool true) ?_ rfl ⟨rfl, (HX.out _ HB.out).2.1.2.2⟩; simp [results, Tryd.results7, go_sem]; done) | skip
    have HB9 := HB
    go_cut [16, 17, 18, 19] (fun s16 s17 s18 s19 wx => ∃ g0 g1 g2 g3 : Nat, s16 = .pointer (some ⟨g0, 0, none⟩) ∧ s17 = .pointer (some ⟨g1, 0, none⟩) ∧ s18 = .pointer (some ⟨g2, 0, none⟩) ∧ s19 = .pointer (some ⟨g3, 0, none⟩) ∧ Hid (Cpy w5.heap.size w5 (vs4 v v v v) (gs4 g0 g1 g2 g3) wx))
    case first =>
      refine (wpIn_wide (n := 9)).1 ?_
      refine wpIn_region_jointL [some 57, some 58, some 59, some 60, some 61, some 62, some 63, some 64, some 65, some 66, some 67, some 68, some 16, some 17, some 18, some 19, none, none, none, none] (J9 w5.heap.size w5 v (visV v A1 A2 A3 q1 q2 q3) (.func (.func 23) #[] #[])) rfl (by kernel_rfl) (by kernel_rfl) (by kernel_rfl) (fun _ d _ _ _ h => by cases d <;> exact h) (J9.start (Nat.le_refl _)) ?_ ?_
      · refine ⟨?_, ?_, ?_, ?_, ?_, ?_, ?_, ?_, ?_, ?_, ?_, ?_, ?_, ?_, ?_, ?_, ?_, ?_, ?_, ?_, trivial⟩
        · (intro val l vo W hli hd hJ K hK; have HK := Lib.hid hK; have HD := Lib.hid hd; have HJ := Lib.hid hJ; have HLI := Lib.hid hli; clear hK hd hJ hli; simp only [putD, Act.put, List.setIfInBounds_toArray, List.set_cons_succ, List.set_cons_zero, Nat.zero_add, Nat.reduceAdd] at HK ⊢; refine ⟨rfl, ?_⟩)
          gi_wp2
          exact HK.out _ _ (HJ.out.mov 0 (by decide))
        · (intro val l vo W hli hd hJ K hK; have HK := Lib.hid hK; have HD := Lib.hid hd; have HJ := Lib.hid hJ; have HLI := Lib.hid hli; clear hK hd hJ hli; simp only [putD, Act.put, List.setIfInBounds_toArray, List.set_cons_succ, List.set_cons_zero, Nat.zero_add, Nat.reduceAdd] at HK ⊢; refine ⟨rfl, ?_⟩)
          obtain ⟨⟨f0, f1, f2⟩, -⟩ := HX.out W (HB9.out.trans (HJ.out.low.mono HB9.out.size))
          gi_wp2
          exact HK.out _ _ (HJ.out.load 0 (by decide))
        · (intro val l vo W hli hd hJ K hK; have HK := Lib.hid hK; have HD := Lib.hid hd; have HJ := Lib.hid hJ; have HLI := Lib.hid hli; clear hK hd hJ hli; simp only [putD, Act.put, List.setIfInBounds_toArray, List.set_cons_succ, List.set_cons_zero, Nat.zero_add, Nat.reduceAdd] at HK ⊢; refine ⟨rfl, ?_⟩)
          obtain ⟨hl0, hv0⟩ : l 0 = true ∧ val 0 = vo 0 := HD.out.1
          obtain ⟨hl1, hv1⟩ : l 1 = true ∧ val 1 = vo 1 := HD.out.2.1
          have e0 := hv0.trans (HJ.out.mv 0 (by decide) hl0)
          have e1 := hv1.trans (HJ.out.ld 0 (by decide) hl1)
          rw [e0, e1] at HK ⊢
          clear e0 e1 hv0 hv1 hl0 hl1 HD
          have HBW := Lib.hid (HB9.out.trans (HJ.out.low.mono HB9.out.size))
          gi_wp2_with (first | (gi_at_call 23; refine (callsIn_wide.2 (H23.out _ HBW.out h40)).mono ?_; rintro e w6 ⟨⟨B1, B2, B3, c1, c2, c3, rfl, hR⟩, hB6⟩) | (refine And.intro trivial ?_; gi_at_call 23; refine (callsIn_wide.2 (H23.out _ HBW.out h40)).mono ?_; rintro e w6 ⟨⟨B1, B2, B3, c1, c2, c3, rfl, hR⟩, hB6⟩) | fail)
          exact HK.out _ _ (HJ.out.call 0 (by decide) HLI.out hR hB6)
        · (intro val l vo W hli hd hJ K hK; have HK := Lib.hid hK; have HD := Lib.hid hd; have HJ := Lib.hid hJ; have HLI := Lib.hid hli; clear hK hd hJ hli; simp only [putD, Act.put, List.setIfInBounds_toArray, List.set_cons_succ, List.set_cons_zero, Nat.zero_add, Nat.reduceAdd] at HK ⊢; refine ⟨rfl, ?_⟩)
          gi_wp2
          exact HK.out _ _ (HJ.out.mov 1 (by decide))
        · (intro val l vo W hli hd hJ K hK; have HK := Lib.hid hK; have HD := Lib.hid hd; have HJ := Lib.hid hJ; have HLI := Lib.hid hli; clear hK hd hJ hli; simp only [putD, Act.put, List.setIfInBounds_toArray, List.set_cons_succ, List.set_cons_zero, Nat.zero_add, Nat.reduceAdd] at HK ⊢; refine ⟨rfl, ?_⟩)
          obtain ⟨⟨f0, f1, f2⟩, -⟩ := HX.out W (HB9.out.trans (HJ.out.low.mono HB9.out.size))
          gi_wp2
          exact HK.out _ _ (HJ.out.load 1 (by decide))
        · (intro val l vo W hli hd hJ K hK; have HK := Lib.hid hK; have HD := Lib.hid hd; have HJ := Lib.hid hJ; have HLI := Lib.hid hli; clear hK hd hJ hli; simp only [putD, Act.put, List.setIfInBounds_toArray, List.set_cons_succ, List.set_cons_zero, Nat.zero_add, Nat.reduceAdd] at HK ⊢; refine ⟨rfl, ?_⟩)
          obtain ⟨hl0, hv0⟩ : l 3 = true ∧ val 3 = vo 3 := HD.out.1
          obtain ⟨hl1, hv1⟩ : l 4 = true ∧ val 4 = vo 4 := HD.out.2.1
          have e0 := hv0.trans (HJ.out.mv 1 (by decide) hl0)
          have e1 := hv1.trans (HJ.out.ld 1 (by decide) hl1)
          rw [e0, e1] at HK ⊢
          clear e0 e1 hv0 hv1 hl0 hl1 HD
          have HBW := Lib.hid (HB9.out.trans (HJ.out.low.mono HB9.out.size))
          gi_wp2_with (first | (gi_at_call 23; refine (callsIn_wide.2 (H23.out _ HBW.out h40)).mono ?_; rintro e w6 ⟨⟨B1, B2, B3, c1, c2, c3, rfl, hR⟩, hB6⟩) | (refine And.intro trivial ?_; gi_at_call 23; refine (callsIn_wide.2 (H23.out _ HBW.out h40)).mono ?_; rintro e w6 ⟨⟨B1, B2, B3, c1, c2, c3, rfl, hR⟩, hB6⟩) | fail)
          exact HK.out _ _ (HJ.out.call 1 (by decide) HLI.out hR hB6)
        · (intro val l vo W hli hd hJ K hK; have HK := Lib.hid hK; have HD := Lib.hid hd; have HJ := Lib.hid hJ; have HLI := Lib.hid hli; clear hK hd hJ hli; simp only [putD, Act.put, List.setIfInBounds_toArray, List.set_cons_succ, List.set_cons_zero, Nat.zero_add, Nat.reduceAdd] at HK ⊢; refine ⟨rfl, ?_⟩)
          gi_wp2
          exact HK.out _ _ (HJ.out.mov 2 (by decide))
        · (intro val l vo W hli hd hJ K hK; have HK := Lib.hid hK; have HD := Lib.hid hd; have HJ := Lib.hid hJ; have HLI := Lib.hid hli; clear hK hd hJ hli; simp only [putD, Act.put, List.setIfInBounds_toArray, List.set_cons_succ, List.set_cons_zero, Nat.zero_add, Nat.reduceAdd] at HK ⊢; refine ⟨rfl, ?_⟩)
          obtain ⟨⟨f0, f1, f2⟩, -⟩ := HX.out W (HB9.out.trans (HJ.out.low.mono HB9.out.size))
          gi_wp2
          exact HK.out _ _ (HJ.out.load 2 (by decide))
        · (intro val l vo W hli hd hJ K hK; have HK := Lib.hid hK; have HD := Lib.hid hd; have HJ := Lib.hid hJ; have HLI := Lib.hid hli; clear hK hd hJ hli; simp only [putD, Act.put, List.setIfInBounds_toArray, List.set_cons_succ, List.set_cons_zero, Nat.zero_add, Nat.reduceAdd] at HK ⊢; refine ⟨rfl, ?_⟩)
          obtain ⟨hl0, hv0⟩ : l 6 = true ∧ val 6 = vo 6 := HD.out.1
          obtain ⟨hl1, hv1⟩ : l 7 = true ∧ val 7 = vo 7 := HD.out.2.1
          have e0 := hv0.trans (HJ.out.mv 2 (by decide) hl0)
          have e1 := hv1.trans (HJ.out.ld 2 (by decide) hl1)
          rw [e0, e1] at HK ⊢
          clear e0 e1 hv0 hv1 hl0 hl1 HD
          have HBW := Lib.hid (HB9.out.trans (HJ.out.low.mono HB9.out.size))
          gi_wp2_with (first | (gi_at_call 23; refine (callsIn_wide.2 (H23.out _ HBW.out h40)).mono ?_; rintro e w6 ⟨⟨B1, B2, B3, c1, c2, c3, rfl, hR⟩, hB6⟩) | (refine And.intro trivial ?_; gi_at_call 23; refine (callsIn_wide.2 (H23.out _ HBW.out h40)).mono ?_; rintro e w6 ⟨⟨B1, B2, B3, c1, c2, c3, rfl, hR⟩, hB6⟩) | fail)
          exact HK.out _ _ (HJ.out.call 2 (by decide) HLI.out hR hB6)
        · (intro val l vo W hli hd hJ K hK; have HK := Lib.hid hK; have HD := Lib.hid hd; have HJ := Lib.hid hJ; have HLI := Lib.hid hli; clear hK hd hJ hli; simp only [putD, Act.put, List.setIfInBounds_toArray, List.set_cons_succ, List.set_cons_zero, Nat.zero_add, Nat.reduceAdd] at HK ⊢; refine ⟨rfl, ?_⟩)
          gi_wp2
          exact HK.out _ _ (HJ.out.mov 3 (by decide))
        · (intro val l vo W hli hd hJ K hK; have HK := Lib.hid hK; have HD := Lib.hid hd; have HJ := Lib.hid hJ; have HLI := Lib.hid hli; clear hK hd hJ hli; simp only [putD, Act.put, List.setIfInBounds_toArray, List.set_cons_succ, List.set_cons_zero, Nat.zero_add, Nat.reduceAdd] at HK ⊢; refine ⟨rfl, ?_⟩)
          obtain ⟨⟨f0, f1, f2⟩, -⟩ := HX.out W (HB9.out.trans (HJ.out.low.mono HB9.out.size))
          gi_wp2
          exact HK.out _ _ (HJ.out.load 3 (by decide))
        · (intro val l vo W hli hd hJ K hK; have HK := Lib.hid hK; have HD := Lib.hid hd; have HJ := Lib.hid hJ; have HLI := Lib.hid hli; clear hK hd hJ hli; simp only [putD, Act.put, List.setIfInBounds_toArray, List.set_cons_succ, List.set_cons_zero, Nat.zero_add, Nat.reduceAdd] at HK ⊢; refine ⟨rfl, ?_⟩)
          obtain ⟨hl0, hv0⟩ : l 9 = true ∧ val 9 = vo 9 := HD.out.1
          obtain ⟨hl1, hv1⟩ : l 10 = true ∧ val 10 = vo 10 := HD.out.2.1
          have e0 := hv0.trans (HJ.out.mv 3 (by decide) hl0)
          have e1 := hv1.trans (HJ.out.ld 3 (by decide) hl1)
          rw [e0, e1] at HK ⊢
          clear e0 e1 hv0 hv1 hl0 hl1 HD
          have HBW := Lib.hid (HB9.out.trans (HJ.out.low.mono HB9.out.size))
          gi_wp2_with (first | (gi_at_call 23; refine (callsIn_wide.2 (H23.out _ HBW.out h40)).mono ?_; rintro e w6 ⟨⟨B1, B2, B3, c1, c2, c3, rfl, hR⟩, hB6⟩) | (refine And.intro trivial ?_; gi_at_call 23; refine (callsIn_wide.2 (H23.out _ HBW.out h40)).mono ?_; rintro e w6 ⟨⟨B1, B2, B3, c1, c2, c3, rfl, hR⟩, hB6⟩) | fail)
          exact HK.out _ _ (HJ.out.call 3 (by decide) HLI.out hR hB6)
        · (intro val l vo W hli hd hJ K hK; have HK := Lib.hid hK; have HD := Lib.hid hd; have HJ := Lib.hid hJ; have HLI := Lib.hid hli; clear hK hd hJ hli; simp only [putD, Act.put, List.setIfInBounds_toArray, List.set_cons_succ, List.set_cons_zero, Nat.zero_add, Nat.reduceAdd] at HK ⊢; refine ⟨rfl, ?_⟩)
          gi_wp2
          exact HK.out _ _ (HJ.out.alloc 0 (by decide) HLI.out _)
        · (intro val l vo W hli hd hJ K hK; have HK := Lib.hid hK; have HD := Lib.hid hd; have HJ := Lib.hid hJ; have HLI := Lib.hid hli; clear hK hd hJ hli; simp only [putD, Act.put, List.setIfInBounds_toArray, List.set_cons_succ, List.set_cons_zero, Nat.zero_add, Nat.reduceAdd] at HK ⊢; refine ⟨rfl, ?_⟩)
          gi_wp2
          exact HK.out _ _ (HJ.out.alloc 1 (by decide) HLI.out _)
        · (intro val l vo W hli hd hJ K hK; have HK := Lib.hid hK; have HD := Lib.hid hd; have HJ := Lib.hid hJ; have HLI := Lib.hid hli; clear hK hd hJ hli; simp only [putD, Act.put, List.setIfInBounds_toArray, List.set_cons_succ, List.set_cons_zero, Nat.zero_add, Nat.reduceAdd] at HK ⊢; refine ⟨rfl, ?_⟩)
          gi_wp2
          exact HK.out _ _ (HJ.out.alloc 2 (by decide) HLI.out _)
        · (intro val l vo W hli hd hJ K hK; have HK := Lib.hid hK; have HD := Lib.hid hd; have HJ := Lib.hid hJ; have HLI := Lib.hid hli; clear hK hd hJ hli; simp only [putD, Act.put, List.setIfInBounds_toArray, List.set_cons_succ, List.set_cons_zero, Nat.zero_add, Nat.reduceAdd] at HK ⊢; refine ⟨rfl, ?_⟩)
          gi_wp2
          exact HK.out _ _ (HJ.out.alloc 3 (by decide) HLI.out _)
        · (intro val l vo W hli hd hJ K hK; have HK := Lib.hid hK; have HD := Lib.hid hd; have HJ := Lib.hid hJ; have HLI := Lib.hid hli; clear hK hd hJ hli; simp only [putD, Act.put, List.setIfInBounds_toArray, List.set_cons_succ, List.set_cons_zero, Nat.zero_add, Nat.reduceAdd] at HK ⊢; refine ⟨rfl, ?_⟩)
          obtain ⟨hl0, hv0⟩ : l 12 = true ∧ val 12 = vo 12 := HD.out.1
          obtain ⟨hl1, hv1⟩ : l 2 = true ∧ val 2 = vo 2 := HD.out.2.1
          obtain ⟨g, hg, hgN, hb⟩ := HJ.out.box 0 (by decide) hl0
          obtain ⟨B1, B2, B3, c1, c2, c3, hq⟩ := HJ.out.row 0 (by decide) hl1
          have hb' : Box W g zro := by
            have hf : l (16 + 0) = false := HLI.out
            rw [hf] at hb
            exact hb
          obtain ⟨y0, z0⟩ := hb'.at_ 0 _ rfl
          obtain ⟨y1, z1⟩ := hb'.at_ 1 _ rfl
          obtain ⟨y2, z2⟩ := hb'.at_ 2 _ rfl
          have e0 := hv0.trans hg
          have e1 := hv1.trans hq
          rw [e0, e1] at HK ⊢
          have HG := Lib.hid hg
          have HQ := Lib.hid hq
          clear e0 e1 hv0 hv1 hg hq HD hb
          gi_wp2
          refine HK.out undef _ (HJ.out.store 0 (by decide) hl1 hl0 HG.out undef (((((Frm.refl _ (fun x => x = g) _).setCell (.inr rfl) _).setCell (.inr rfl) _).setCell (.inr rfl) _)) ?_)
          have hq : vo (3 * 0 + 2) = _ := HQ.out
          rw [hq]
          exact ((hb'.set 0 _).set 1 _).set 2 _
        · (intro val l vo W hli hd hJ K hK; have HK := Lib.hid hK; have HD := Lib.hid hd; have HJ := Lib.hid hJ; have HLI := Lib.hid hli; clear hK hd hJ hli; simp only [putD, Act.put, List.setIfInBounds_toArray, List.set_cons_succ, List.set_cons_zero, Nat.zero_add, Nat.reduceAdd] at HK ⊢; refine ⟨rfl, ?_⟩)
          obtain ⟨hl0, hv0⟩ : l 13 = true ∧ val 13 = vo 13 := HD.out.1
          obtain ⟨hl1, hv1⟩ : l 5 = true ∧ val 5 = vo 5 := HD.out.2.1
          obtain ⟨g, hg, hgN, hb⟩ := HJ.out.box 1 (by decide) hl0
          obtain ⟨B1, B2, B3, c1, c2, c3, hq⟩ := HJ.out.row 1 (by decide) hl1
          have hb' : Box W g zro := by
            have hf : l (16 + 1) = false := HLI.out
            rw [hf] at hb
            exact hb
          obtain ⟨y0, z0⟩ := hb'.at_ 0 _ rfl
          obtain ⟨y1, z1⟩ := hb'.at_ 1 _ rfl
          obtain ⟨y2, z2⟩ := hb'.at_ 2 _ rfl
          have e0 := hv0.trans hg
          have e1 := hv1.trans hq
          rw [e0, e1] at HK ⊢
          have HG := Lib.hid hg
          have HQ := Lib.hid hq
          clear e0 e1 hv0 hv1 hg hq HD hb
          gi_wp2
          refine HK.out undef _ (HJ.out.store 1 (by decide) hl1 hl0 HG.out undef (((((Frm.refl _ (fun x => x = g) _).setCell (.inr rfl) _).setCell (.inr rfl) _).setCell (.inr rfl) _)) ?_)
          have hq : vo (3 * 1 + 2) = _ := HQ.out
          rw [hq]
          exact ((hb'.set 0 _).set 1 _).set 2 _
        · (intro val l vo W hli hd hJ K hK; have HK := Lib.hid hK; have HD := Lib.hid hd; have HJ := Lib.hid hJ; have HLI := Lib.hid hli; clear hK hd hJ hli; simp only [putD, Act.put, List.setIfInBounds_toArray, List.set_cons_succ, List.set_cons_zero, Nat.zero_add, Nat.reduceAdd] at HK ⊢; refine ⟨rfl, ?_⟩)
          obtain ⟨hl0, hv0⟩ : l 14 = true ∧ val 14 = vo 14 := HD.out.1
          obtain ⟨hl1, hv1⟩ : l 8 = true ∧ val 8 = vo 8 := HD.out.2.1
          obtain ⟨g, hg, hgN, hb⟩ := HJ.out.box 2 (by decide) hl0
          obtain ⟨B1, B2, B3, c1, c2, c3, hq⟩ := HJ.out.row 2 (by decide) hl1
          have hb' : Box W g zro := by
            have hf : l (16 + 2) = false := HLI.out
            rw [hf] at hb
            exact hb
          obtain ⟨y0, z0⟩ := hb'.at_ 0 _ rfl
          obtain ⟨y1, z1⟩ := hb'.at_ 1 _ rfl
          obtain ⟨y2, z2⟩ := hb'.at_ 2 _ rfl
          have e0 := hv0.trans hg
          have e1 := hv1.trans hq
          rw [e0, e1] at HK ⊢
          have HG := Lib.hid hg
          have HQ := Lib.hid hq
          clear e0 e1 hv0 hv1 hg hq HD hb
          gi_wp2
          refine HK.out undef _ (HJ.out.store 2 (by decide) hl1 hl0 HG.out undef (((((Frm.refl _ (fun x => x = g) _).setCell (.inr rfl) _).setCell (.inr rfl) _).setCell (.inr rfl) _)) ?_)
          have hq : vo (3 * 2 + 2) = _ := HQ.out
          rw [hq]
          exact ((hb'.set 0 _).set 1 _).set 2 _
        · (intro val l vo W hli hd hJ K hK; have HK := Lib.hid hK; have HD := Lib.hid hd; have HJ := Lib.hid hJ; have HLI := Lib.hid hli; clear hK hd hJ hli; simp only [putD, Act.put, List.setIfInBounds_toArray, List.set_cons_succ, List.set_cons_zero, Nat.zero_add, Nat.reduceAdd] at HK ⊢; refine ⟨rfl, ?_⟩)
          obtain ⟨hl0, hv0⟩ : l 15 = true ∧ val 15 = vo 15 := HD.out.1
          obtain ⟨hl1, hv1⟩ : l 11 = true ∧ val 11 = vo 11 := HD.out.2.1
          obtain ⟨g, hg, hgN, hb⟩ := HJ.out.box 3 (by decide) hl0
          obtain ⟨B1, B2, B3, c1, c2, c3, hq⟩ := HJ.out.row 3 (by decide) hl1
          have hb' : Box W g zro := by
            have hf : l (16 + 3) = false := HLI.out
            rw [hf] at hb
            exact hb
          obtain ⟨y0, z0⟩ := hb'.at_ 0 _ rfl
          obtain ⟨y1, z1⟩ := hb'.at_ 1 _ rfl
          obtain ⟨y2, z2⟩ := hb'.at_ 2 _ rfl
          have e0 := hv0.trans hg
          have e1 := hv1.trans hq
          rw [e0, e1] at HK ⊢
          have HG := Lib.hid hg
          have HQ := Lib.hid hq
          clear e0 e1 hv0 hv1 hg hq HD hb
          gi_wp2
          refine HK.out undef _ (HJ.out.store 3 (by decide) hl1 hl0 HG.out undef (((((Frm.refl _ (fun x => x = g) _).setCell (.inr rfl) _).setCell (.inr rfl) _).setCell (.inr rfl) _)) ?_)
          have hq : vo (3 * 3 + 2) = _ := HQ.out
          rw [hq]
          exact ((hb'.set 0 _).set 1 _).set 2 _
      · intro l val W hall hJ
        obtain ⟨g0, g1, g2, g3, e0, e1, e2, e3, hC⟩ := hJ.fin (fun i hi => hall i (by simpa using hi))
        have HC := Lib.hid hC
        clear hC hJ hall
        simp only [putD, Act.put, List.setIfInBounds_toArray, List.set_cons_succ, List.set_cons_zero]
        rw [e0, e1, e2, e3]
        go_wp2_with (fail)
        go_meet
        exact ⟨g0, g1, g2, g3, rfl, rfl, rfl, rfl, by rw [← vs4_all]; exact HC⟩
    case rest =>
      obtain ⟨g0, g1, g2, g3, rfl, rfl, rfl, rfl, HC⟩ := hcut
      obtain ⟨wo, hwo⟩ : ∃ x, x = wc := ⟨_, rfl⟩
      subst hwo
      replace HB := Lib.hid (HB9.out.trans (HC.out.low.mono HB9.out.size))
      clear x0 x1 x2
      obtain ⟨⟨x0, x1, x2⟩, -⟩ := HX.out _ HB.out
      obtain ⟨whn, rfl⟩ : ∃ n : Nat, wh = n := ⟨wh.toNat, by omega⟩
      obtain ⟨kk, hkk⟩ : ∃ k, whn % v.rm.length = k := ⟨_, rfl⟩
      have hkl : kk < v.rm.length := by rw [← hkk]; exact Nat.mod_lt _ (by omega)
      have hrem : (whn : Int).tmod (v.rm.length : Int) = (kk : Int) := by rw [← hkk]; rfl
      have hwc : IntKind.i64.wrap (whn : Int) = (whn : Int) := IntWalk.i64_in _ (by omega)
      have hwb : IntKind.i64.wrap by_ = by_ := IntWalk.i64_in _ (by omega)
      have hnz : ((v.rm.length : Int) == 0) = false := beq_eq_false_iff_ne.2 (by omega)
      have kk0 : (0 : Int) ≤ (kk : Int) := by omega
      have kk1 : (kk : Int) < (v.rm.length : Int) := by omega
      clear hkk
      go_upto_region 11 with (fail)
      have hrb := HV.out.room kk hkl
      obtain ⟨rk, hrk⟩ : ∃ z, v.rm[kk] = z := ⟨_, rfl⟩
      have hrv : v.room kk = rk := by rw [← hrk]; simp [Vis.room, List.getD_eq_getElem?_getD, hkl]
      rw [hrv] at hrb
      obtain ⟨bq, e1, D2, D3, e2, e3, hbx, hrc, hfc, hbN, hset⟩ := HC.out.room 0 (by decide) kk hkl
      simp only [vs4, gs4] at hbx hrc
      rw [hrk] at hrc
      have HSET := Lib.hid hset
      obtain ⟨y0, -⟩ := hbx.at_ 0 _ rfl
      have hw1 : IntKind.i64.wrap (rk + by_) = rk + by_ := IntWalk.i64_in _ (by omega)
      have HRV := Lib.hid hrv
      clear hbx hset hrk hrv
      refine (wpIn_wide (n := 9)).1 ?_
      refine wpIn_region_plan (Plan.ons [0, 1, 2, 3, 4, 5, 6, 7, 8, 9, 10, 11, 12, 13] .fin) [] (fun _ => True) [] rfl (by kernel_rfl) (by kernel_rfl) (fun _ d _ _ _ h => by cases d <;> exact h) trivial ?_
      (refine ordQ_li rfl rfl rfl (fun K hK => ?_); go_simp; refine hK _ ?_; clear hK K)
      (refine ordQ_li rfl rfl rfl (fun K hK => ?_); go_simp; refine hK _ ?_; clear hK K)
      (refine ordQ_li rfl rfl rfl (fun K hK => ?_); go_simp; refine hK _ ?_; clear hK K)
      (refine ordQ_li rfl rfl rfl (fun K hK => ?_); go_simp; refine hK _ ?_; clear hK K)
      (refine ordQ_li rfl rfl rfl (fun K hK => ?_); go_simp; refine hK _ ?_; clear hK K)
      (refine ordQ_li rfl rfl rfl (fun K hK => ?_); go_simp; refine hK _ ?_; clear hK K)
      (refine ordQ_li rfl rfl rfl (fun K hK => ?_); go_simp; refine hK _ ?_; clear hK K)
      (refine ordQ_li rfl rfl rfl (fun K hK => ?_); go_simp; refine hK _ ?_; clear hK K)
      (refine ordQ_li rfl rfl rfl (fun K hK => ?_); go_simp; refine hK _ ?_; clear hK K)
      (refine ordQ_li rfl rfl rfl (fun K hK => ?_); go_simp; refine hK _ ?_; clear hK K)
      (refine ordQ_li rfl rfl rfl (fun K hK => ?_); go_simp; refine hK _ ?_; clear hK K)
      (refine ordQ_li rfl rfl rfl (fun K hK => ?_); go_simp; refine hK _ ?_; clear hK K)
      (refine ordQ_li rfl rfl rfl (fun K hK => ?_); go_simp; refine hK _ ?_; clear hK K)
      (refine ordQ_hv rfl rfl rfl (fun K hK => ?_); gi_wp2; refine hK _ _ (fun _ => trivial) ?_; clear hK K)
      refine ordQ_fin ?_
      have HC2 := Lib.hid ((HSET.out (min 1000 (rk + by_))).later (Below.refl _ _).drew)
      rw [vs4_0] at HC2
      obtain ⟨wp, hwp⟩ : ∃ x, (wo.setCell ⟨bq, kk, none⟩ (I (min 1000 (rk + by_)))).drew = x := ⟨_, rfl⟩
      rw [hwp] at HC2 ⊢
      obtain ⟨vw, hvw⟩ : ∃ x, widV v kk (min 1000 (rk + by_)) = x := ⟨_, rfl⟩
      have HVW := Lib.hid hvw
      change Hid (Cpy w5.heap.size w5 (vs4 (widV v kk (min 1000 (rk + by_))) v v v) (gs4 g0 g1 g2 g3) wp) at HC2
      rw [hvw] at HC2
      clear HSET y0 hrc hfc hwp hvw HC hw1 hbN
      replace HB := Lib.hid (HB9.out.trans (HC2.out.low.mono HB9.out.size))
      clear x0 x1 x2
      obtain ⟨⟨x0, x1, x2⟩, -, t0, t1, t2, t3⟩ := HX.out _ HB.out
      obtain ⟨D1, D2, D3, e1, e2, e3, hown, hbx, hmore⟩ := (HC2.out.later (below1 wp (.cells #[I s1, I s2, I s3, I s4] 51))).more 1 (by decide)
      simp only [vs4, gs4] at hown hbx
      have HOW := Lib.hid hown
      have HMO := Lib.hid hmore
      obtain ⟨F1, F2, F3, f1, f2, f3, hby, -, -⟩ := HC2.out.vis 1 (by decide)
      simp only [vs4, gs4] at hby
      have hby2 := (hby.alloc (.cells #[I s1, I s2, I s3, I s4] 51))
      have hee : Value.slice F2 v.tr.length f2 = .slice D2 v.tr.length e2 := by
        have h1 := (hby2.at_ 1 _ rfl).1
        have h2 := (hbx.at_ 1 _ rfl).1
        rw [h1] at h2
        exact Option.some.inj h2
      obtain ⟨y1, -⟩ := hby.at_ 1 _ rfl
      rw [hee] at y1
      have hcn : ∀ j u, ([I s1, I s2, I s3, I s4] : List Value)[j]? = some u → (wp.alloc (.cells #[I s1, I s2, I s3, I s4] 51)).cell? ((⟨wp.heap.size, 0, none⟩ : Addr).add j) = some u := cells_new wp [I s1, I s2, I s3, I s4] 51
      have hN5 : w5.heap.size ≤ (wp.alloc (.cells #[I s1, I s2, I s3, I s4] 51)).heap.size := by have := HC2.out.low.size; simp; omega
      clear hbx hby hby2 hee hown hmore
      go_upto_region 13 with (first
        | (at_builtin; refine wpList_append_blk _ rfl _ _ 23 rfl w5.heap.size 51 j0 (.agg #[I 0, I 0, I 0, I 0]) 4 32 Tryd.underlying23 hj0 hj1 hj2 hj3 rfl (by decide) _ v.tr.length (flat4 v.tr) rfl HOW.out ⟨wp.heap.size, 0, none⟩ 1 1 [I s1, I s2, I s3, I s4] rfl (by decide) rfl hcn (by simp [Value.oneCell']) (by unfold maxLen; omega) (by omega) hN5 ?_; intro r2 w7 ho2 hg2 hbk; obtain ⟨⟨y3, hy3⟩, hz3, hC3⟩ := HMO.out r2 w7 (s1, s2, s3, s4) ho2 hg2 hbk; simp only [gs4] at hy3 hz3; obtain ⟨gn, cn, rfl⟩ : ∃ g cap, r2 = .slice (some ⟨g, 0, none⟩) (v.tr.length + 1) cap := (by rcases own_formS ho2 with ⟨_, h7⟩ | ⟨g, cap, h7, h8, h9⟩; (omega); exact ⟨g, cap, h7⟩); have HC3 := Lib.hid hC3; clear ho2 hg2 hbk hcn hN5 hC3 HOW HMO)
        | fail)
      obtain ⟨wq, hwq⟩ : ∃ x, w7.setCell ⟨g1, 1, none⟩ (.slice (some ⟨gn, 0, none⟩) (v.tr.length + 1) cn) = x := ⟨_, rfl⟩
      rw [vs4_1] at HC3
      change Hid (Cpy w5.heap.size w5 (vs4 vw (trV v (s1, s2, s3, s4)) v v) (gs4 g0 g1 g2 g3) (w7.setCell ⟨g1, 1, none⟩ (.slice (some ⟨gn, 0, none⟩) (v.tr.length + 1) cn))) at HC3
      rw [hwq] at HC3 ⊢
      clear hwq y1 hy3 hz3 HC2 x0 x1 x2 t0 t1 t2 t3
      obtain ⟨vt, hvt⟩ : ∃ x, trV v (s1, s2, s3, s4) = x := ⟨_, rfl⟩
      have HVT := Lib.hid hvt
      rw [hvt] at HC3
      clear hvt
      obtain ⟨F1', F2', F3', f1', f2', f3', hby, -, -⟩ := HC3.out.vis 2 (by decide)
      simp only [vs4, gs4] at hby
      obtain ⟨y2, -⟩ := hby.at_ 2 _ rfl
      clear hby
      go_wp2_with (fail)
      go_loopw [97] (fun i wr => ∃ k : Nat, i = I k ∧ k ≤ v.ar.length ∧ Hid (Cpy w5.heap.size w5 (vs4 vw vt ⟨v.rm, v.tr, mapK (manH by_) v.ar k⟩ v) (gs4 g0 g1 g2 g3) wr)) (fun i _ => v.ar.length - (intOf i).toNat)
      case atStart => exact ⟨0, rfl, by omega, by rw [mapK_zero]; exact HC3⟩
      case round =>
        obtain ⟨k, rfl, hk, HC4⟩ := hrel
        clear HC3 y2
        by_cases hlt : k < v.ar.length
        · have hk' : k < (mapK (manH by_) v.ar k).length := by rw [mapK_len]; exact hlt
          obtain ⟨bq, e3, D1, D2, e1, e2, hbx, hrc, hfc, hbN, hset⟩ := HC4.out.people 2 (by decide) k hk'
          have HSET := Lib.hid hset
          simp only [vs4, gs4, mapK_len] at hbx
          have hrc' : wr.cell? ⟨bq, k * 3 + 2, none⟩ = some (I (mapK (manH by_) v.ar k)[k].2.2) := hrc
          rw [mapK_at hk' hlt] at hrc'
          have hab := (HV.out.ar _ (List.getElem_mem hlt)).2.2
          obtain ⟨ak, hak⟩ : ∃ z, v.ar[k].2.2 = z := ⟨_, rfl⟩
          rw [hak] at hrc' hab
          obtain ⟨rr, hrr⟩ : ∃ z, by_.tmod ((k : Int) + 2) = z := ⟨_, rfl⟩
          have hrb := tmod_two hby0 hby1 k
          rw [hrr] at hrb
          have HSE : Hid ((mapK (manH by_) v.ar k).set k ((mapK (manH by_) v.ar k)[k].1, (mapK (manH by_) v.ar k)[k].2.1, min 1000 (ak + rr)) = mapK (manH by_) v.ar (k + 1)) := Lib.hid (by
            rw [mapK_at hk' hlt, ← mapK_set hlt]
            show _ = (mapK (manH by_) v.ar k).set k (v.ar[k].1, v.ar[k].2.1, manF by_ k v.ar[k].2.2)
            unfold manF
            rw [hak, hrr])
          obtain ⟨y2, -⟩ := hbx.at_ 2 _ rfl
          have k0 : (0 : Int) ≤ (k : Int) := by omega
          have k1 : (k : Int) < (v.ar.length : Int) := by omega
          have hw2' : IntKind.i64.wrap ((k : Int) + 2) = (k : Int) + 2 := IntWalk.i64_in _ (by omega)
          have hw3 : IntKind.i64.wrap ((k : Int) + 1) = (k : Int) + 1 := IntWalk.i64_in _ (by omega)
          have hw4 : IntKind.i64.wrap (ak + rr) = ak + rr := IntWalk.i64_in _ (by omega)
          have hz4 : ¬ ((k : Int) + 2 = 0) := by omega
          clear hbx hset hrc hak
          go_upto_region 16 with (fail)
          refine (wpIn_wide (n := 9)).1 ?_
          refine wpIn_region_plan (Plan.ons [0, 1, 2, 3, 4, 5, 6, 7, 8, 9, 10, 11, 12, 13, 14, 15, 16, 17, 18] .fin) [] (fun _ => True) [] rfl (by kernel_rfl) (by kernel_rfl) (fun _ d _ _ _ h => by cases d <;> exact h) trivial ?_
          (refine ordQ_li rfl rfl rfl (fun K hK => ?_); go_simp; refine hK _ ?_; clear hK K)
          (refine ordQ_li rfl rfl rfl (fun K hK => ?_); go_simp; refine hK _ ?_; clear hK K)
          (refine ordQ_li rfl rfl rfl (fun K hK => ?_); go_simp; refine hK _ ?_; clear hK K)
          (refine ordQ_li rfl rfl rfl (fun K hK => ?_); go_simp; refine hK _ ?_; clear hK K)
          (refine ordQ_li rfl rfl rfl (fun K hK => ?_); go_simp; refine hK _ ?_; clear hK K)
          (refine ordQ_li rfl rfl rfl (fun K hK => ?_); go_simp; refine hK _ ?_; clear hK K)
          (refine ordQ_li rfl rfl rfl (fun K hK => ?_); go_simp; refine hK _ ?_; clear hK K)
          (refine ordQ_li rfl rfl rfl (fun K hK => ?_); go_simp; refine hK _ ?_; clear hK K)
          (refine ordQ_li rfl rfl rfl (fun K hK => ?_); go_simp; refine hK _ ?_; clear hK K)
          (refine ordQ_li rfl rfl rfl (fun K hK => ?_); go_simp; refine hK _ ?_; clear hK K)
          (refine ordQ_li rfl rfl rfl (fun K hK => ?_); go_simp; refine hK _ ?_; clear hK K)
          (refine ordQ_li rfl rfl rfl (fun K hK => ?_); go_simp; refine hK _ ?_; clear hK K)
          (refine ordQ_li rfl rfl rfl (fun K hK => ?_); go_simp; refine hK _ ?_; clear hK K)
          (refine ordQ_li rfl rfl rfl (fun K hK => ?_); go_simp; refine hK _ ?_; clear hK K)
          (refine ordQ_li rfl rfl rfl (fun K hK => ?_); go_simp; refine hK _ ?_; clear hK K)
          (refine ordQ_li rfl rfl rfl (fun K hK => ?_); go_simp; refine hK _ ?_; clear hK K)
          (refine ordQ_li rfl rfl rfl (fun K hK => ?_); go_simp; refine hK _ ?_; clear hK K)
          (refine ordQ_li rfl rfl rfl (fun K hK => ?_); go_simp; refine hK _ ?_; clear hK K)
          (refine ordQ_hv rfl rfl rfl (fun K hK => ?_); gi_wp2; refine hK _ _ (fun _ => trivial) ?_; clear hK K)
          refine ordQ_fin ?_
          have HC5 := Lib.hid ((HSET.out (min 1000 (ak + rr))).later (Below.refl _ _).drew)
          rw [vs4_2] at HC5
          go_wp2_with (fail)
          go_roundw
          case rel =>
            refine ⟨k + 1, by go_num, by omega, Lib.hid ?_⟩
            have h := HC5.out
            rw [← HSE.out]
            exact h
          case measure => first | (simp [intOf]; done) | (simp [intOf]; omega)
        · have k1 : ¬ (k : Int) < (v.ar.length : Int) := by omega
          obtain rfl : k = v.ar.length := by omega
          rw [mapK_all] at HC4
          obtain ⟨vm, hvm⟩ : ∃ x, manV v (manF by_) = x := ⟨_, rfl⟩
          have HVM := Lib.hid hvm
          change Hid (Cpy w5.heap.size w5 (vs4 vw vt (manV v (manF by_)) v) (gs4 g0 g1 g2 g3) wr) at HC4
          rw [hvm] at HC4
          clear hvm
          obtain ⟨wx, hwx⟩ : ∃ x, x = wr := ⟨_, rfl⟩
          subst hwx
          obtain ⟨P1, P2, P3, p1, p2, p3, hb0, hv0, -⟩ := HC4.out.vis 0 (by decide)
          obtain ⟨Q1, Q2, Q3, u1, u2, u3, hb1, hv1, -⟩ := HC4.out.vis 1 (by decide)
          obtain ⟨R1, R2, R3, r1, r2, r3, hb2, hv2, -⟩ := HC4.out.vis 2 (by decide)
          simp only [vs4, gs4] at hb0 hv0 hb1 hv1 hb2 hv2
          obtain ⟨y00, -⟩ := hb0.at_ 0 _ rfl
          obtain ⟨y01, -⟩ := hb0.at_ 1 _ rfl
          obtain ⟨y02, -⟩ := hb0.at_ 2 _ rfl
          obtain ⟨y10, -⟩ := hb1.at_ 0 _ rfl
          obtain ⟨y11, -⟩ := hb1.at_ 1 _ rfl
          obtain ⟨y12, -⟩ := hb1.at_ 2 _ rfl
          obtain ⟨y20, -⟩ := hb2.at_ 0 _ rfl
          obtain ⟨y21, -⟩ := hb2.at_ 1 _ rfl
          obtain ⟨y22, -⟩ := hb2.at_ 2 _ rfl
          have B9 := Box.new wx [.slice P1 vw.rm.length p1, .slice P2 vw.tr.length p2, .slice P3 vw.ar.length p3, .slice Q1 vt.rm.length u1, .slice Q2 vt.tr.length u2, .slice Q3 vt.ar.length u3, .slice R1 vm.rm.length r1, .slice R2 vm.tr.length r2, .slice R3 vm.ar.length r3] 26
          have HBl := below1 wx (.cells #[.slice P1 vw.rm.length p1, .slice P2 vw.tr.length p2, .slice P3 vw.ar.length p3, .slice Q1 vt.rm.length u1, .slice Q2 vt.tr.length u2, .slice Q3 vt.ar.length u3, .slice R1 vm.rm.length r1, .slice R2 vm.tr.length r2, .slice R3 vm.ar.length r3] 26)
          clear hb0 hb1 hb2
          go_wp2_with (fail)
          obtain ⟨wl, hwl⟩ : ∃ x, wx.alloc (.cells #[.slice P1 vw.rm.length p1, .slice P2 vw.tr.length p2, .slice P3 vw.ar.length p3, .slice Q1 vt.rm.length u1, .slice Q2 vt.tr.length u2, .slice Q3 vt.ar.length u3, .slice R1 vm.rm.length r1, .slice R2 vm.tr.length r2, .slice R3 vm.ar.length r3] 26) = x := ⟨_, rfl⟩
          change Box (wx.alloc (.cells #[.slice P1 vw.rm.length p1, .slice P2 vw.tr.length p2, .slice P3 vw.ar.length p3, .slice Q1 vt.rm.length u1, .slice Q2 vt.tr.length u2, .slice Q3 vt.ar.length u3, .slice R1 vm.rm.length r1, .slice R2 vm.tr.length r2, .slice R3 vm.ar.length r3] 26)) _ _ at B9
          rw [hwl] at B9 HBl ⊢
          clear hwl y00 y01 y02 y10 y11 y12 y20 y21 y22
          have HB6 := Lib.hid (HB9.out.trans ((HC4.out.low.trans (HBl.mono HC4.out.low.size)).mono HB9.out.size))
          have HBL := Lib.hid HBl
          have HQ : Hid (∀ k, k < 3 → ∃ B1 B2 B3 c1 c2 c3, ∀ W, Below wl.heap.size wl W → (W.cell? ⟨wx.heap.size, k * 3, none⟩ = some (.slice B1 (vs4 vw vt vm v k).rm.length c1) ∧ W.cell? ⟨wx.heap.size, k * 3 + 1, none⟩ = some (.slice B2 (vs4 vw vt vm v k).tr.length c2) ∧ W.cell? ⟨wx.heap.size, k * 3 + 2, none⟩ = some (.slice B3 (vs4 vw vt vm v k).ar.length c3)) ∧ VisAt W W.heap.size (vs4 vw vt vm v k) B1 B2 B3) := Lib.hid fun k hk => by
            rcases (by omega : k = 0 ∨ k = 1 ∨ k = 2) with rfl | rfl | rfl
            · exact ⟨P1, P2, P3, p1, p2, p3, fun W h => ⟨⟨((B9.call h).at_ 0 _ rfl).1, ((B9.call h).at_ 1 _ rfl).1, ((B9.call h).at_ 2 _ rfl).1⟩, (hv0.below (HBl.trans (h.mono HBl.size))).more (HBl.trans (h.mono HBl.size)).size⟩⟩
            · exact ⟨Q1, Q2, Q3, u1, u2, u3, fun W h => ⟨⟨((B9.call h).at_ 3 _ rfl).1, ((B9.call h).at_ 4 _ rfl).1, ((B9.call h).at_ 5 _ rfl).1⟩, (hv1.below (HBl.trans (h.mono HBl.size))).more (HBl.trans (h.mono HBl.size)).size⟩⟩
            · exact ⟨R1, R2, R3, r1, r2, r3, fun W h => ⟨⟨((B9.call h).at_ 6 _ rfl).1, ((B9.call h).at_ 7 _ rfl).1, ((B9.call h).at_ 8 _ rfl).1⟩, (hv2.below (HBl.trans (h.mono HBl.size))).more (HBl.trans (h.mono HBl.size)).size⟩⟩
          have HL : Hid (∀ k, k < 3 → (visB (vs4 vw vt vm v k) = true → VisLe v (vs4 vw vt vm v k)) ∧ (vs4 vw vt vm v k).rm.length = v.rm.length ∧ Vis64 (vs4 vw vt vm v k)) := Lib.hid fun k hk => by
            rcases (by omega : k = 0 ∨ k = 1 ∨ k = 2) with rfl | rfl | rfl
            · show (visB vw = true → VisLe v vw) ∧ vw.rm.length = v.rm.length ∧ Vis64 vw
              rw [← HVW.out]
              exact ⟨fun _ => wid_le (by rw [HRV.out]; omega), by simp [widV], by simp [widV]; omega, by simp [widV]; omega, by simp [widV]; omega⟩
            · show (visB vt = true → VisLe v vt) ∧ vt.rm.length = v.rm.length ∧ Vis64 vt
              rw [← HVT.out]
              refine ⟨fun h => tr_le ?_, by simp [trV], by simp [trV]; omega, by simp [trV]; omega, by simp [trV]; omega⟩
              exact ((visB_iff.1 h).tr (s1, s2, s3, s4) (by simp [trV])).2.2.2.2.1
            · show (visB vm = true → VisLe v vm) ∧ vm.rm.length = v.rm.length ∧ Vis64 vm
              rw [← HVM.out]
              refine ⟨fun _ => man_le fun i a ha => ?_, by simp [manV], by simp [manV]; omega, by simp [manV]; omega, by simp [manV]; omega⟩
              have h1 := (HV.out.ar a ha).2.2
              have h2 := tmod_two hby0 hby1 i
              unfold manF
              omega
          clear B9 hv0 hv1 hv2 HBl
          go_loopw [124] (fun i wr => ∃ k : Nat, i = I k ∧ k ≤ 3 ∧ Hid (Below wl.heap.size wl wr)) (fun i _ => 3 - (intOf i).toNat)
          case atStart => exact ⟨0, rfl, by omega, Lib.hid (Below.refl _ _)⟩
          case round =>
            obtain ⟨k, rfl, hk, HBr⟩ := hrel
            by_cases hlt : k < 3
            · obtain ⟨B1, B2, B3, c1, c2, c3, hq⟩ := HQ.out k hlt
              obtain ⟨hle, hlen, h64k⟩ := HL.out k hlt
              obtain ⟨vk, hvk⟩ : ∃ x, vs4 vw vt vm v k = x := ⟨_, rfl⟩
              rw [hvk] at hq hle hlen h64k
              clear hvk
              obtain ⟨⟨c0, c1', c2'⟩, -⟩ := hq wr HBr.out
              have k0 : (0 : Int) ≤ (k : Int) := by omega
              have k1 : (k : Int) < 3 := by omega
              have hw3 : IntKind.i64.wrap ((k : Int) + 1) = (k : Int) + 1 := IntWalk.i64_in _ (by omega)
              have HBA := Lib.hid (HBr.out.trans ((below1 wr (.cells #[.slice B1 vk.rm.length c1, .slice B2 vk.tr.length c2, .slice B3 vk.ar.length c3] 26)).mono HBr.out.size))
              have HBB := Lib.hid (Box.new wr [.slice B1 vk.rm.length c1, .slice B2 vk.tr.length c2, .slice B3 vk.ar.length c3] 26)
              have HBZ := Lib.hid (below1 wr (.cells #[.slice B1 vk.rm.length c1, .slice B2 vk.tr.length c2, .slice B3 vk.ar.length c3] 26))
              have HKG : Hid (∀ W, Below wl.heap.size wl W → GlobOk W) := Lib.hid fun W h => (HX.out _ (HB6.out.trans (h.mono HB6.out.size))).2.1.2.1
              rcases err_two HE.out hlen with ⟨hvb, he0⟩ | ⟨hvb, he1⟩
              · have H16k : Hid (∀ W, Below wl.heap.size wl W → Calls Tryd.prog 16 #[.agg #[.slice B1 vk.rm.length c1, .slice B2 vk.tr.length c2, .slice B3 vk.ar.length c3], I pn, I mn] W fun e w' => ∃ val : Int, e = .returned (.tuple #[I val, I 0]) ∧ (¬ val < nn) ∧ Below W.heap.size W w') := Lib.hid fun W h => by
                  refine (most16 vk h64k B1 B2 B3 c1 c2 c3 pn mn W (hq W h).2 (HKG.out W h)).mono ?_
                  rintro e w' ⟨val, h1, h2, h3⟩
                  rw [he0] at h1
                  obtain ⟨R', h4⟩ := h2.1 he0
                  obtain ⟨R, h5⟩ := HM.out
                  have := (hle hvb).most hpn h5 h4
                  exact ⟨val, h1, by omega, h3⟩
                have H24k : Hid True := Lib.hid trivial
                clear hq hle hlen h64k hvb he0
                go_wp2_with (first
                  | (go_at_call 16; refine (H16k.out _ HBA.out).mono ?_; rintro e w11 ⟨mv, rfl, hnl, hB⟩; have HBN := Lib.hid (HBA.out.trans (hB.mono HBA.out.size)); obtain ⟨b0, -⟩ := (HBB.out.call hB).at_ 0 _ rfl; obtain ⟨b1, -⟩ := (HBB.out.call hB).at_ 1 _ rfl; obtain ⟨b2, -⟩ := (HBB.out.call hB).at_ 2 _ rfl; clear hB)
                  | fail)
                go_roundw
                case rel => exact ⟨k + 1, by go_num, by omega, HBN⟩
                case measure => first | (simp [intOf]; done) | (simp [intOf]; omega)
              · have H16k : Hid (∀ W, Below wl.heap.size wl W → Calls Tryd.prog 16 #[.agg #[.slice B1 vk.rm.length c1, .slice B2 vk.tr.length c2, .slice B3 vk.ar.length c3], I pn, I mn] W fun e w' => ∃ val : Int, e = .returned (.tuple #[I val, I 1]) ∧ Below W.heap.size W w') := Lib.hid fun W h => by
                  refine (most16 vk h64k B1 B2 B3 c1 c2 c3 pn mn W (hq W h).2 (HKG.out W h)).mono ?_
                  rintro e w' ⟨val, h1, h2, h3⟩
                  rw [he1] at h1
                  exact ⟨val, h1, h3⟩
                have H24k : Hid (∀ W, Below wl.heap.size wl W → Calls Tryd.prog 24 #[.agg #[.slice B1 vk.rm.length c1, .slice B2 vk.tr.length c2, .slice B3 vk.ar.length c3]] W fun e w' => e = .returned (.bool false) ∧ Below W.heap.size W w') := Lib.hid fun W h => by
                  have := visit24 vk h64k B1 B2 B3 c1 c2 c3 W (hq W h).2
                  rw [hvb] at this
                  exact this
                clear hq hle hlen h64k hvb he1
                go_wp2_with (first
                  | (go_at_call 16; refine (H16k.out _ HBA.out).mono ?_; rintro e w11 ⟨mv, rfl, hB⟩; have HBN := Lib.hid (HBA.out.trans (hB.mono HBA.out.size)); obtain ⟨b0, -⟩ := (HBB.out.call hB).at_ 0 _ rfl; obtain ⟨b1, -⟩ := (HBB.out.call hB).at_ 1 _ rfl; obtain ⟨b2, -⟩ := (HBB.out.call hB).at_ 2 _ rfl; clear hB)
                  | (go_at_call 24; refine (H24k.out _ HBN.out).mono ?_; rintro e w12 ⟨rfl, hB⟩; have HBM := Lib.hid (HBN.out.trans (hB.mono HBN.out.size)); clear hB)
                  | fail)
                go_roundw
                case rel => exact ⟨k + 1, by go_num, by omega, HBM⟩
                case measure => first | (simp [intOf]; done) | (simp [intOf]; omega)
            · have k1 : ¬ (k : Int) < 3 := by omega
              obtain rfl : k = 3 := by omega
              have HC6 := Lib.hid ((HC4.out.later HBL.out).later ((Below.refl _ _).trans HBr.out))
              obtain ⟨vf, hvf⟩ : ∃ x, vs4 vw vt vm v = x := ⟨_, rfl⟩
              replace HC6 := Lib.hid (HC6.out.three (x := v) rfl)
              rw [hvf] at HC6
              clear hvf HQ HL HC4
              obtain ⟨D1, D2, D3, e1, e2, e3, hbx, -, -⟩ := HC6.out.vis3
              obtain ⟨y3, -⟩ := hbx.at_ 0 _ rfl
              simp only [gs4] at y3
              clear hbx
              go_wp2_with (fail)
              go_loopw [154] (fun i wr => ∃ k : Nat, i = I k ∧ k ≤ v.rm.length ∧ Hid (Cpy w5.heap.size w5 (updT vf 3 ⟨mapK dblR v.rm k, v.tr, v.ar⟩) (gs4 g0 g1 g2 g3) wr)) (fun i _ => v.rm.length - (intOf i).toNat)
              case atStart => exact ⟨0, rfl, by omega, by rw [mapK_zero]; exact HC6⟩
              case round =>
                obtain ⟨k, rfl, hk, HC7⟩ := hrel
                clear HC6 y3
                by_cases hlt : k < v.rm.length
                · have hk' : k < (mapK dblR v.rm k).length := by rw [mapK_len]; exact hlt
                  obtain ⟨bq, e1, D2, D3, e2, e3, hbx, hrc, hfc, hbN, hset⟩ := HC7.out.room3 k hk'
                  have HSET := Lib.hid hset
                  simp only [gs4, mapK_len, List.length_map] at hbx
                  have hrc' : wr.cell? ⟨bq, k, none⟩ = some (I (mapK dblR v.rm k)[k]) := hrc
                  rw [mapK_at hk' hlt] at hrc'
                  have hbd := HV.out.room k hlt
                  have hvr : v.room k = v.rm[k] := by simp [Vis.room, List.getD_eq_getElem?_getD, hlt]
                  rw [hvr] at hbd
                  obtain ⟨zz, hzz⟩ : ∃ z, v.rm[k] = z := ⟨_, rfl⟩
                  rw [hzz] at hrc' hbd
                  have HSE : Hid ((mapK dblR v.rm k).set k (zz * 2) = mapK dblR v.rm (k + 1)) := Lib.hid (by
                    rw [← mapK_set hlt]
                    show _ = (mapK dblR v.rm k).set k (dblR k v.rm[k])
                    unfold dblR
                    rw [hzz])
                  obtain ⟨y3, -⟩ := hbx.at_ 0 _ rfl
                  have k0 : (0 : Int) ≤ (k : Int) := by omega
                  have k1 : (k : Int) < (v.rm.length : Int) := by omega
                  have hw3 : IntKind.i64.wrap ((k : Int) + 1) = (k : Int) + 1 := IntWalk.i64_in _ (by omega)
                  have hw4 : IntKind.i64.wrap (zz * 2) = zz * 2 := IntWalk.i64_in _ (by omega)
                  clear hbx hset hrc hzz hvr
                  go_wp2_with (fail)
                  go_roundw
                  case rel =>
                    refine ⟨k + 1, by go_num, by omega, Lib.hid ?_⟩
                    have h := HSET.out (zz * 2)
                    rw [HSE.out] at h
                    exact h
                  case measure => first | (simp [intOf]; done) | (simp [intOf]; omega)
                · have k1 : ¬ (k : Int) < (v.rm.length : Int) := by omega
                  obtain rfl : k = v.rm.length := by omega
                  rw [mapK_all] at HC7
                  replace HC7 : Hid (Cpy w5.heap.size w5 (updT vf 3 ⟨v.rm.map (· * 2), v.tr, v.ar⟩) (gs4 g0 g1 g2 g3) wr) := Lib.hid (by
                    have h := HC7.out
                    rw [mapIdx_map] at h
                    exact h)
                  obtain ⟨D1, D2, D3, e1, e2, e3, hbx, hvx, -⟩ := HC7.out.vis3
                  simp only [gs4, List.length_map] at hbx
                  obtain ⟨y3, -⟩ := hbx.at_ 1 _ rfl
                  clear hbx hvx
                  go_wp2_with (fail)
                  go_loopw [168] (fun i wr => ∃ k : Nat, i = I k ∧ k ≤ v.tr.length ∧ Hid (Cpy w5.heap.size w5 (updT vf 3 ⟨v.rm.map (· * 2), mapK dblT v.tr k, v.ar⟩) (gs4 g0 g1 g2 g3) wr)) (fun i _ => v.tr.length - (intOf i).toNat)
                  case atStart => exact ⟨0, rfl, by omega, by rw [mapK_zero]; exact HC7⟩
                  case round =>
                    obtain ⟨k, rfl, hk, HC8⟩ := hrel
                    clear HC7 y3
                    by_cases hlt : k < v.tr.length
                    · have hk' : k < (mapK dblT v.tr k).length := by rw [mapK_len]; exact hlt
                      obtain ⟨bq, e2, D1, D3, e1, e3, hbx, hrc, hfc, hbN, hset⟩ := HC8.out.trail3 k hk'
                      have HSET := Lib.hid hset
                      simp only [gs4, mapK_len, List.length_map] at hbx
                      have hrc' : wr.cell? ⟨bq, k * 4 + 3, none⟩ = some (I (mapK dblT v.tr k)[k].2.2.2) := hrc
                      rw [mapK_at hk' hlt] at hrc'
                      have hbd := (HV.out.tr _ (List.getElem_mem hlt)).2.2.2.2
                      obtain ⟨zz, hzz⟩ : ∃ z, v.tr[k].2.2.2 = z := ⟨_, rfl⟩
                      rw [hzz] at hrc' hbd
                      have HSE : Hid ((mapK dblT v.tr k).set k ((mapK dblT v.tr k)[k].1, (mapK dblT v.tr k)[k].2.1, (mapK dblT v.tr k)[k].2.2.1, zz * 2) = mapK dblT v.tr (k + 1)) := Lib.hid (by
                        rw [mapK_at hk' hlt, ← mapK_set hlt]
                        show _ = (mapK dblT v.tr k).set k (dblT k v.tr[k])
                        unfold dblT
                        rw [hzz])
                      obtain ⟨y3, -⟩ := hbx.at_ 1 _ rfl
                      have k0 : (0 : Int) ≤ (k : Int) := by omega
                      have k1 : (k : Int) < (v.tr.length : Int) := by omega
                      have hw3 : IntKind.i64.wrap ((k : Int) + 1) = (k : Int) + 1 := IntWalk.i64_in _ (by omega)
                      have hw4 : IntKind.i64.wrap (zz * 2) = zz * 2 := IntWalk.i64_in _ (by omega)
                      clear hbx hset hrc hzz
                      go_wp2_with (fail)
                      go_roundw
                      case rel =>
                        refine ⟨k + 1, by go_num, by omega, Lib.hid ?_⟩
                        have h := HSET.out (zz * 2)
                        rw [HSE.out] at h
                        exact h
                      case measure => first | (simp [intOf]; done) | (simp [intOf]; omega)
                    · have k1 : ¬ (k : Int) < (v.tr.length : Int) := by omega
                      obtain rfl : k = v.tr.length := by omega
                      rw [mapK_all] at HC8
                      replace HC8 : Hid (Cpy w5.heap.size w5 (updT vf 3 ⟨v.rm.map (· * 2), v.tr.map fun x => (x.1, x.2.1, x.2.2.1, x.2.2.2 * 2), v.ar⟩) (gs4 g0 g1 g2 g3) wr) := Lib.hid (by
                        have h := HC8.out
                        rw [mapIdx_map] at h
                        exact h)
                      obtain ⟨D1, D2, D3, e1, e2, e3, hbx, hvx, -⟩ := HC8.out.vis3
                      simp only [gs4, List.length_map] at hbx
                      obtain ⟨y3, -⟩ := hbx.at_ 2 _ rfl
                      clear hbx hvx
                      go_wp2_with (fail)
                      go_loopw [184] (fun i wr => ∃ k : Nat, i = I k ∧ k ≤ v.ar.length ∧ Hid (Cpy w5.heap.size w5 (updT vf 3 ⟨v.rm.map (· * 2), v.tr.map fun x => (x.1, x.2.1, x.2.2.1, x.2.2.2 * 2), mapK dblA v.ar k⟩) (gs4 g0 g1 g2 g3) wr)) (fun i _ => v.ar.length - (intOf i).toNat)
                      case atStart => exact ⟨0, rfl, by omega, by rw [mapK_zero]; exact HC8⟩
                      case round =>
                        obtain ⟨k, rfl, hk, HC9⟩ := hrel
                        clear HC8 y3
                        by_cases hlt : k < v.ar.length
                        · have hk' : k < (mapK dblA v.ar k).length := by rw [mapK_len]; exact hlt
                          obtain ⟨bq, e3, D1, D2, e1, e2, hbx, hrc, hfc, hbN, hset⟩ := HC9.out.people3 k hk'
                          have HSET := Lib.hid hset
                          simp only [gs4, mapK_len, List.length_map] at hbx
                          have hrc' : wr.cell? ⟨bq, k * 3 + 2, none⟩ = some (I (mapK dblA v.ar k)[k].2.2) := hrc
                          rw [mapK_at hk' hlt] at hrc'
                          have hbd := (HV.out.ar _ (List.getElem_mem hlt)).2.2
                          obtain ⟨zz, hzz⟩ : ∃ z, v.ar[k].2.2 = z := ⟨_, rfl⟩
                          rw [hzz] at hrc' hbd
                          have HSE : Hid ((mapK dblA v.ar k).set k ((mapK dblA v.ar k)[k].1, (mapK dblA v.ar k)[k].2.1, zz * 2) = mapK dblA v.ar (k + 1)) := Lib.hid (by
                            rw [mapK_at hk' hlt, ← mapK_set hlt]
                            show _ = (mapK dblA v.ar k).set k (dblA k v.ar[k])
                            unfold dblA
                            rw [hzz])
                          obtain ⟨y3, -⟩ := hbx.at_ 2 _ rfl
                          have k0 : (0 : Int) ≤ (k : Int) := by omega
                          have k1 : (k : Int) < (v.ar.length : Int) := by omega
                          have hw3 : IntKind.i64.wrap ((k : Int) + 1) = (k : Int) + 1 := IntWalk.i64_in _ (by omega)
                          have hw4 : IntKind.i64.wrap (zz * 2) = zz * 2 := IntWalk.i64_in _ (by omega)
                          clear hbx hset hrc hzz
                          go_wp2_with (fail)
                          go_roundw
                          case rel =>
                            refine ⟨k + 1, by go_num, by omega, Lib.hid ?_⟩
                            have h := HSET.out (zz * 2)
                            rw [HSE.out] at h
                            exact h
                          case measure => first | (simp [intOf]; done) | (simp [intOf]; omega)
                        · have k1 : ¬ (k : Int) < (v.ar.length : Int) := by omega
                          obtain rfl : k = v.ar.length := by omega
                          rw [mapK_all] at HC9
                          replace HC9 : Hid (Cpy w5.heap.size w5 (updT vf 3 (dblV v)) (gs4 g0 g1 g2 g3) wr) := Lib.hid (by
                            have h := HC9.out
                            rw [mapIdx_map] at h
                            exact h)
                          obtain ⟨D1, D2, D3, e1, e2, e3, hbx, hvx, -⟩ := HC9.out.vis3
                          have hlr : (dblV v).rm.length = v.rm.length := by simp [dblV]
                          have hlt2 : (dblV v).tr.length = v.tr.length := by simp [dblV]
                          have hla : (dblV v).ar.length = v.ar.length := by simp [dblV]
                          rw [hlr, hlt2, hla] at hbx
                          simp only [gs4] at hbx
                          have h64d : Vis64 (dblV v) := ⟨by omega, by omega, by omega⟩
                          replace HB := Lib.hid (HB9.out.trans (HC9.out.low.mono HB9.out.size))
                          have HBr := Lib.hid (Below.refl wr.heap.size wr)
                          have HBX := Lib.hid hbx
                          have HDG : Hid (∀ W, Below wr.heap.size wr W → VisAt W W.heap.size (dblV v) D1 D2 D3 ∧ GlobOk W) := Lib.hid fun W h => ⟨(hvx.below h).more h.size, (HX.out _ (HB.out.trans (h.mono HB.out.size))).2.1.2.1⟩
                          obtain ⟨z0, -⟩ := hbx.at_ 0 _ rfl
                          obtain ⟨z1, -⟩ := hbx.at_ 1 _ rfl
                          obtain ⟨z2, -⟩ := hbx.at_ 2 _ rfl
                          have hnn := (by obtain ⟨R, h1⟩ := HM.out; exact most_rangeM HV.out hpn h1 : 0 ≤ nn ∧ nn ≤ v.room pn)
                          have hrm := HV.out.room pn hpn
                          have hw5 : IntKind.i64.wrap (2 * nn) = 2 * nn := IntWalk.i64_in _ (by omega)
                          have HVD : Hid (∀ W, Below wr.heap.size wr W → visV (dblV v) D1 D2 D3 e1 e2 e3 = .agg #[.slice D1 v.rm.length e1, .slice D2 v.tr.length e2, .slice D3 v.ar.length e3]) := Lib.hid fun _ _ => by rw [visV, hlr, hlt2, hla]
                          rcases err_two HE.out hlr with ⟨hvb, he0⟩ | ⟨hvb, he1⟩
                          · have H16d : Hid (∀ W, Below wr.heap.size wr W → Calls Tryd.prog 16 #[.agg #[.slice D1 v.rm.length e1, .slice D2 v.tr.length e2, .slice D3 v.ar.length e3], I pn, I mn] W fun e w' => e = .returned (.tuple #[I (2 * nn), I 0]) ∧ Below W.heap.size W w') := Lib.hid fun W h => by
                              have := most16 (dblV v) h64d D1 D2 D3 e1 e2 e3 pn mn W (HDG.out W h).1 (HDG.out W h).2
                              rw [HVD.out W h] at this
                              refine this.mono ?_
                              rintro e w' ⟨val, h1, h2, h3⟩
                              rw [he0] at h1
                              obtain ⟨R', h4⟩ := h2.1 he0
                              obtain ⟨R, h5⟩ := HM.out
                              rw [← dbl_most h5 h4]
                              exact ⟨h1, h3⟩
                            clear hbx hvx HVD HDG h64d hvb he0 hlr hlt2 hla
                            go_wp2_with (first
                              | (go_at_call 16; refine (H16d.out _ HBr.out).mono ?_; rintro e w11 ⟨rfl, hB⟩; replace HB := Lib.hid (HB.out.trans (hB.mono HB.out.size)); obtain ⟨⟨x0, x1, x2⟩, -⟩ := HX.out _ HB.out; clear hB)
                              | (go_at_call 13; refine (H13.out _ (HX.out _ HB.out).2.1.2.1).mono ?_; rintro e w9 ⟨rfl, hB⟩; replace HB := Lib.hid (HB.out.trans (hB.mono HB.out.size)); clear x0 x1 x2; obtain ⟨⟨x0, x1, x2⟩, -⟩ := HX.out _ HB.out; clear hB)
                              | fail)
                            all_goals (refine bodyPost_ret (v := .bool true) ?_ rfl ⟨rfl, (HX.out _ HB.out).2.1.2.2⟩; simp [results, Tryd.results7, go_sem]; done)
                          · have H16d : Hid (∀ W, Below wr.heap.size wr W → Calls Tryd.prog 16 #[.agg #[.slice D1 v.rm.length e1, .slice D2 v.tr.length e2, .slice D3 v.ar.length e3], I pn, I mn] W fun e w' => ∃ val : Int, e = .returned (.tuple #[I val, I 1]) ∧ Below W.heap.size W w') := Lib.hid fun W h => by
                              have := most16 (dblV v) h64d D1 D2 D3 e1 e2 e3 pn mn W (HDG.out W h).1 (HDG.out W h).2
                              rw [HVD.out W h] at this
                              refine this.mono ?_
                              rintro e w' ⟨val, h1, h2, h3⟩
                              rw [he1] at h1
                              exact ⟨val, h1, h3⟩
                            have H24d : Hid (∀ W, Below wr.heap.size wr W → Calls Tryd.prog 24 #[.agg #[.slice D1 v.rm.length e1, .slice D2 v.tr.length e2, .slice D3 v.ar.length e3]] W fun e w' => e = .returned (.bool false) ∧ Below W.heap.size W w') := Lib.hid fun W h => by
                              have := visit24 (dblV v) h64d D1 D2 D3 e1 e2 e3 W (HDG.out W h).1
                              rw [HVD.out W h, hvb] at this
                              exact this
                            clear hbx hvx HVD HDG h64d hvb he1 hlr hlt2 hla
                            go_wp2_with (first
                              | (go_at_call 16; refine (H16d.out _ HBr.out).mono ?_; rintro e w11 ⟨mv, rfl, hB⟩; replace HB := Lib.hid (HB.out.trans (hB.mono HB.out.size)); replace HBr := Lib.hid (HBr.out.trans (hB.mono HBr.out.size)); have hbd := HBX.out.call hB; clear z0 z1 z2; obtain ⟨z0, -⟩ := hbd.at_ 0 _ rfl; obtain ⟨z1, -⟩ := hbd.at_ 1 _ rfl; obtain ⟨z2, -⟩ := hbd.at_ 2 _ rfl; obtain ⟨⟨x0, x1, x2⟩, -⟩ := HX.out _ HB.out; clear hB hbd)
                              | (go_at_call 24; refine (H24d.out _ HBr.out).mono ?_; rintro e w12 ⟨rfl, hB⟩; replace HB := Lib.hid (HB.out.trans (hB.mono HB.out.size)); clear x0 x1 x2; obtain ⟨⟨x0, x1, x2⟩, -⟩ := HX.out _ HB.out; clear hB)
                              | (go_at_call 13; refine (H13.out _ (HX.out _ HB.out).2.1.2.1).mono ?_; rintro e w9 ⟨rfl, hB⟩; replace HB := Lib.hid (HB.out.trans (hB.mono HB.out.size)); clear x0 x1 x2; obtain ⟨⟨x0, x1, x2⟩, -⟩ := HX.out _ HB.out; clear hB)
                              | fail)
                            all_goals (refine bodyPost_ret (v := .bool true) ?_ rfl ⟨rfl, (HX.out _ HB.out).2.1.2.2⟩; simp [results, Tryd.results7, go_sem]; done)
  · have HE : Hid (∀ val, MostAns v p m val → val = 0) := Lib.hid fun val h => h.2 he
    have H16 : Hid (∀ W, Below w2.heap.size w2 W → Calls Tryd.prog 16 #[visV v A1 A2 A3 q1 q2 q3, I p, I m] W fun e w' => ∃ val : Int, e = .returned (.tuple #[I val, I (errN v p m)]) ∧ MostAns v p m val ∧ Below W.heap.size W w') := Lib.hid fun W h => most16 v h64 A1 A2 A3 q1 q2 q3 p m W (HX.out W h).2.1.1 (HX.out W h).2.1.2.1
    obtain ⟨en, hen⟩ : ∃ z, errN v p m = z := ⟨_, rfl⟩
    rw [hen] at H16 he
    clear hen b1 b2 hB2 hI hG h64 hbig H21
    go_enter Tryd.func7, Tryd.ntmps7
    go_wp2_with (first
      | (go_at_call 12; refine (H12.out _).mono ?_; rintro e w3 ⟨b, rfl, hb, hB⟩; replace HB := Lib.hid (HB.out.trans (hB.mono HB.out.size)); clear x0 x1 x2; obtain ⟨⟨x0, x1, x2⟩, -⟩ := HX.out _ HB.out; clear hB hb)
      | (go_at_call 13; refine (H13.out _ (HX.out _ HB.out).2.1.2.1).mono ?_; rintro e w9 ⟨rfl, hB⟩; replace HB := Lib.hid (HB.out.trans (hB.mono HB.out.size)); clear x0 x1 x2; obtain ⟨⟨x0, x1, x2⟩, -⟩ := HX.out _ HB.out; clear hB)
      | (go_at_call 16; refine (H16.out _ HB.out).mono ?_; rintro e w4 ⟨val, rfl, hA, hB⟩; have hz := HE.out _ hA; subst hz; replace HB := Lib.hid (HB.out.trans (hB.mono HB.out.size)); clear x0 x1 x2; obtain ⟨⟨x0, x1, x2⟩, -⟩ := HX.out _ HB.out; clear hB hA)
      | fail)
    all_goals (refine bodyPost_ret (v := .bool true) ?_ rfl ⟨rfl, (HX.out _ HB.out).2.1.2.2⟩; simp [results, Tryd.results7, go_sem]; done)
end Go.Proofs.YtomfnldlnoiloaaDoor
