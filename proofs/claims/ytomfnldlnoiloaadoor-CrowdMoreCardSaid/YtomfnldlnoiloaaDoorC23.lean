/- The copy of a visit (closure 23 of CrowdMore). Printed by mkC23.py. -/
import Derived.Test.YtomfnldlnoiloaaDoorCq
namespace Go.Proofs.YtomfnldlnoiloaaDoor
set_option linter.unusedVariables false
set_option linter.unusedSimpArgs false
open Go Go.RowKit Go.Maps

set_option maxRecDepth 100000 in
set_option maxHeartbeats 8000000 in
theorem copied23 (v : Vis) (hv : v.rm.length + v.tr.length + v.ar.length ≤ 40) (A1 A2 A3 : Option Addr) (q1 q2 q3 : Nat) (w : World) (hI : VisAt w w.heap.size v A1 A2 A3) :
    Calls Tryd.prog 23 #[visV v A1 A2 A3 q1 q2 q3] w fun e w' => (∃ B1 B2 B3 c1 c2 c3, e = .returned (visV v B1 B2 B3 c1 c2 c3) ∧ Rows3 w.heap.size v B1 B2 B3 c1 c2 c3 w') ∧ Below w.heap.size w w' := by
  obtain ⟨i0, hi0, hi01, hi02, hi03⟩ := info_parts info3
  obtain ⟨i1, hi1, hi11, hi12, hi13⟩ := info_parts info51
  obtain ⟨i2, hi2, hi21, hi22, hi23⟩ := info_parts info49
  go_enter Tryd.func23, Tryd.ntmps23
  obtain ⟨w1, hw1⟩ : ∃ w1, (w.alloc (.cells #[.slice A1 v.rm.length q1, .slice A2 v.tr.length q2, .slice A3 v.ar.length q3] 26)).alloc (.cells #[.slice none 0 0, .slice none 0 0, .slice none 0 0] 26) = w1 := ⟨_, rfl⟩
  have hz1 : w1.heap.size = w.heap.size + 2 := by rw [← hw1]; simp
  have hB1 : Below w.heap.size w w1 := by rw [← hw1]; (repeat' (first | assumption | exact Below.refl _ _ | refine Below.drew ?_ | refine below_drewN ?_ _ | refine Below.setCell ?_ (by first | omega | (simp; done) | (simp; omega)) _ | refine Below.alloc ?_ (by first | omega | (simp; done) | (simp; omega)) _ | refine Below.trans ?_ (Below.mono (by assumption) (by first | omega | (simp; done) | (simp; omega)))))
  have b1 : Box w1 w.heap.size [.slice A1 v.rm.length q1, .slice A2 v.tr.length q2, .slice A3 v.ar.length q3] := by rw [← hw1]; exact (Box.new w [.slice A1 v.rm.length q1, .slice A2 v.tr.length q2, .slice A3 v.ar.length q3] 26).alloc _
  have b2 : Box w1 (w.heap.size + 1) [.slice none 0 0, .slice none 0 0, .slice none 0 0] := by
    have h := Box.new (w.alloc (.cells #[.slice A1 v.rm.length q1, .slice A2 v.tr.length q2, .slice A3 v.ar.length q3] 26)) [.slice none 0 0, .slice none 0 0, .slice none 0 0] 26
    rw [World.size_alloc] at h
    rw [← hw1]; exact h
  have hz : ∀ W, Frm (w.heap.size + 2) (fun g => g = w.heap.size) w1 W → Below w.heap.size w W := fun W h => hB1.trans (h.below (by omega) (fun k hk e => by omega))
  have HSRC : Hid (∀ W, Frm (w.heap.size + 2) (fun g => g = w.heap.size) w1 W → (0 < v.rm.length → ∃ ad, A1 = some ad ∧ ∀ j u, (v.rm.map I)[j]? = some u → W.cell? (ad.add j) = some u) ∧ (0 < v.tr.length → ∃ ad, A2 = some ad ∧ ∀ j u, (flat4 v.tr)[j]? = some u → W.cell? (ad.add j) = some u) ∧ (0 < v.ar.length → ∃ ad, A3 = some ad ∧ ∀ j u, (flat3 v.ar)[j]? = some u → W.cell? (ad.add j) = some u)) := Lib.hid fun W h =>
    ⟨ints_at (hI.rm.below (hz W h)), flat4_at (hI.tr.below (hz W h)), flat3_at (hI.ar.below (hz W h))⟩
  go_upto_region 1 with (fail)
  clear hw1
  have c0 := b1.at_ 0 _ rfl
  have c1 := b1.at_ 1 _ rfl
  have c2 := b1.at_ 2 _ rfl
  go_cut [] (fun W => ∃ B1 B2 B3 c1 c2 c3, Frm (w.heap.size + 2) (fun g => g = w.heap.size) w1 W ∧ Hid (Rows3 (w.heap.size + 2) v B1 B2 B3 c1 c2 c3 W) ∧ Hid (Box W w.heap.size [.slice B1 v.rm.length c1, .slice B2 v.tr.length c2, .slice B3 v.ar.length c3]))
  case first =>
    refine (wpIn_wide (n := 9)).1 ?_
    refine wpIn_region_jointL [some 3, some 4, some 5, some 6, some 7, some 8, some 9, some 10, some 11, some 12, some 13, some 14, some 15, none, some 16, none, some 17, none] (fun l val W => Frm (w.heap.size + 2) (fun g => g = w.heap.size) w1 W ∧ Trk (w.heap.size + 2) w.heap.size 3 1 (.slice A1 v.rm.length q1) v.rm.length (v.rm.map I) 0 (l 0) (l 1) (l 2) (l 3) (l 12) (l 13) (val 0) (val 1) (val 2) (val 3) (val 12) W ∧ Trk (w.heap.size + 2) w.heap.size 51 4 (.slice A2 v.tr.length q2) v.tr.length (flat4 v.tr) 1 (l 4) (l 5) (l 6) (l 7) (l 14) (l 15) (val 4) (val 5) (val 6) (val 7) (val 14) W ∧ Trk (w.heap.size + 2) w.heap.size 49 3 (.slice A3 v.ar.length q3) v.ar.length (flat3 v.ar) 2 (l 8) (l 9) (l 10) (l 11) (l 16) (l 17) (val 8) (val 9) (val 10) (val 11) (val 16) W) rfl (by kernel_rfl) (by kernel_rfl) (by kernel_rfl) (fun _ d _ _ _ h => by cases d <;> exact h) ?_ ?_ ?_
    · exact ⟨(Frm.refl _ _ _).drew, ⟨fun h => (by cases h), fun h => (by cases h), fun h => (by cases h), fun h => (by cases h), fun h => (by cases h), c0, fun h => (by cases h), fun h => (by cases h)⟩, ⟨fun h => (by cases h), fun h => (by cases h), fun h => (by cases h), fun h => (by cases h), fun h => (by cases h), c1, fun h => (by cases h), fun h => (by cases h)⟩, ⟨fun h => (by cases h), fun h => (by cases h), fun h => (by cases h), fun h => (by cases h), fun h => (by cases h), c2, fun h => (by cases h), fun h => (by cases h)⟩⟩
    · refine ⟨?_, ?_, ?_, ?_, ?_, ?_, ?_, ?_, ?_, ?_, ?_, ?_, ?_, ?_, ?_, ?_, ?_, ?_, trivial⟩
      · (intro val l vo W hli hd hJ K hK; have HK := Lib.hid hK; have HD := Lib.hid hd; have HJ := Lib.hid hJ; have HLI := Lib.hid hli; clear hK hd hJ hli; simp only [putD, Act.put, List.setIfInBounds_toArray, List.set_cons_succ, List.set_cons_zero, Nat.zero_add, Nat.reduceAdd] at HK ⊢; refine ⟨rfl, ?_⟩)
        obtain ⟨hF, t0, t1, t2⟩ := HJ.out
        have hz := hF.size
        rw [hz1] at hz
        gi_wp2
        exact HK.out _ _ ⟨hF.alloc (by omega) _, t0.bs HLI.out (by omega) (by omega) rfl, t1.alloc (by omega) _, t2.alloc (by omega) _⟩
      · (intro val l vo W hli hd hJ K hK; have HK := Lib.hid hK; have HD := Lib.hid hd; have HJ := Lib.hid hJ; have HLI := Lib.hid hli; clear hK hd hJ hli; simp only [putD, Act.put, List.setIfInBounds_toArray, List.set_cons_succ, List.set_cons_zero, Nat.zero_add, Nat.reduceAdd] at HK ⊢; refine ⟨rfl, ?_⟩)
        obtain ⟨hF, t0, t1, t2⟩ := HJ.out
        gi_wp2
        exact HK.out _ _ ⟨hF, t0.addr, t1, t2⟩
      · (intro val l vo W hli hd hJ K hK; have HK := Lib.hid hK; have HD := Lib.hid hd; have HJ := Lib.hid hJ; have HLI := Lib.hid hli; clear hK hd hJ hli; simp only [putD, Act.put, List.setIfInBounds_toArray, List.set_cons_succ, List.set_cons_zero, Nat.zero_add, Nat.reduceAdd] at HK ⊢; refine ⟨rfl, ?_⟩)
        obtain ⟨hF, t0, t1, t2⟩ := HJ.out
        obtain ⟨hl1, hv1⟩ : l 1 = true ∧ val 1 = vo 1 := HD.out.1
        have e1 := hv1.trans (t0.fa hl1)
        have hl5 : l 13 = false := t0.late (.inl HLI.out)
        have cc := t0.cell.1
        rw [hl5] at cc
        simp only [Bool.false_eq_true, if_false] at cc
        rw [e1] at HK ⊢
        clear e1 hv1 hl1 HD
        gi_wp2
        exact HK.out _ _ ⟨hF, t0.load, t1, t2⟩
      · (intro val l vo W hli hd hJ K hK; have HK := Lib.hid hK; have HD := Lib.hid hd; have HJ := Lib.hid hJ; have HLI := Lib.hid hli; clear hK hd hJ hli; simp only [putD, Act.put, List.setIfInBounds_toArray, List.set_cons_succ, List.set_cons_zero, Nat.zero_add, Nat.reduceAdd] at HK ⊢; refine ⟨rfl, ?_⟩)
        obtain ⟨hF, t0, t1, t2⟩ := HJ.out
        have hz := hF.size
        rw [hz1] at hz
        obtain ⟨hl0, hv0⟩ : l 0 = true ∧ val 0 = vo 0 := HD.out.1
        obtain ⟨hl2, hv2⟩ : l 2 = true ∧ val 2 = vo 2 := HD.out.2.1
        have e2 := hv2.trans (t0.ld hl2)
        have hl5 : l 13 = false := t0.late (.inr HLI.out)
        have ho := t0.own hl0 HLI.out
        have hsrc := (HSRC.out W hF).1
        rw [hv0, e2] at HK ⊢
        clear hv2 HD
        refine opIn_append_any rfl _ _ _ 22 rfl (w.heap.size + 2) 3 i0 (I 0) 1 8 Tryd.underlying22 hi0 hi01 hi02 hi03 rfl (by decide) _ 0 [] rfl ho A1 v.rm.length q1 (v.rm.map I) rfl (by simp) hsrc (by intro u hu; obtain ⟨x, _, rfl⟩ := List.mem_map.1 hu; rfl) (by unfold maxLen; omega) (by omega) (by omega) ?_
        intro v' w' ho' hg
        rw [Nat.zero_add, List.nil_append] at ho'
        have hb : w.heap.size < W.heap.size := by omega
        rw [hl5] at t0
        have ht0 := t0.append hl0 hl2 HLI.out hb (by omega) ho' hg
        rw [← hl5] at ht0
        exact HK.out _ _ ⟨hF.grown hg (by omega) (fun g e => .inl (ho.lt g e).1), ht0, t1.grown hb (by omega) ho (by decide) hg, t2.grown hb (by omega) ho (by decide) hg⟩
      · (intro val l vo W hli hd hJ K hK; have HK := Lib.hid hK; have HD := Lib.hid hd; have HJ := Lib.hid hJ; have HLI := Lib.hid hli; clear hK hd hJ hli; simp only [putD, Act.put, List.setIfInBounds_toArray, List.set_cons_succ, List.set_cons_zero, Nat.zero_add, Nat.reduceAdd] at HK ⊢; refine ⟨rfl, ?_⟩)
        obtain ⟨hF, t0, t1, t2⟩ := HJ.out
        have hz := hF.size
        rw [hz1] at hz
        gi_wp2
        exact HK.out _ _ ⟨hF.alloc (by omega) _, t0.alloc (by omega) _, t1.bs HLI.out (by omega) (by omega) rfl, t2.alloc (by omega) _⟩
      · (intro val l vo W hli hd hJ K hK; have HK := Lib.hid hK; have HD := Lib.hid hd; have HJ := Lib.hid hJ; have HLI := Lib.hid hli; clear hK hd hJ hli; simp only [putD, Act.put, List.setIfInBounds_toArray, List.set_cons_succ, List.set_cons_zero, Nat.zero_add, Nat.reduceAdd] at HK ⊢; refine ⟨rfl, ?_⟩)
        obtain ⟨hF, t0, t1, t2⟩ := HJ.out
        gi_wp2
        exact HK.out _ _ ⟨hF, t0, t1.addr, t2⟩
      · (intro val l vo W hli hd hJ K hK; have HK := Lib.hid hK; have HD := Lib.hid hd; have HJ := Lib.hid hJ; have HLI := Lib.hid hli; clear hK hd hJ hli; simp only [putD, Act.put, List.setIfInBounds_toArray, List.set_cons_succ, List.set_cons_zero, Nat.zero_add, Nat.reduceAdd] at HK ⊢; refine ⟨rfl, ?_⟩)
        obtain ⟨hF, t0, t1, t2⟩ := HJ.out
        obtain ⟨hl1, hv1⟩ : l 5 = true ∧ val 5 = vo 5 := HD.out.1
        have e1 := hv1.trans (t1.fa hl1)
        have hl5 : l 15 = false := t1.late (.inl HLI.out)
        have cc := t1.cell.1
        rw [hl5] at cc
        simp only [Bool.false_eq_true, if_false] at cc
        rw [e1] at HK ⊢
        clear e1 hv1 hl1 HD
        gi_wp2
        exact HK.out _ _ ⟨hF, t0, t1.load, t2⟩
      · (intro val l vo W hli hd hJ K hK; have HK := Lib.hid hK; have HD := Lib.hid hd; have HJ := Lib.hid hJ; have HLI := Lib.hid hli; clear hK hd hJ hli; simp only [putD, Act.put, List.setIfInBounds_toArray, List.set_cons_succ, List.set_cons_zero, Nat.zero_add, Nat.reduceAdd] at HK ⊢; refine ⟨rfl, ?_⟩)
        obtain ⟨hF, t0, t1, t2⟩ := HJ.out
        have hz := hF.size
        rw [hz1] at hz
        obtain ⟨hl0, hv0⟩ : l 4 = true ∧ val 4 = vo 4 := HD.out.1
        obtain ⟨hl2, hv2⟩ : l 6 = true ∧ val 6 = vo 6 := HD.out.2.1
        have e2 := hv2.trans (t1.ld hl2)
        have hl5 : l 15 = false := t1.late (.inr HLI.out)
        have ho := t1.own hl0 HLI.out
        have hsrc := (HSRC.out W hF).2.1
        rw [hv0, e2] at HK ⊢
        clear hv2 HD
        refine opIn_append_any rfl _ _ _ 23 rfl (w.heap.size + 2) 51 i1 (.agg #[I 0, I 0, I 0, I 0]) 4 32 Tryd.underlying23 hi1 hi11 hi12 hi13 rfl (by decide) _ 0 [] rfl ho A2 v.tr.length q2 (flat4 v.tr) rfl (flat4_len _) hsrc (flat4_one _) (by unfold maxLen; omega) (by omega) (by omega) ?_
        intro v' w' ho' hg
        rw [Nat.zero_add, List.nil_append] at ho'
        have hb : w.heap.size < W.heap.size := by omega
        rw [hl5] at t1
        have ht1 := t1.append hl0 hl2 HLI.out hb (by omega) ho' hg
        rw [← hl5] at ht1
        exact HK.out _ _ ⟨hF.grown hg (by omega) (fun g e => .inl (ho.lt g e).1), t0.grown hb (by omega) ho (by decide) hg, ht1, t2.grown hb (by omega) ho (by decide) hg⟩
      · (intro val l vo W hli hd hJ K hK; have HK := Lib.hid hK; have HD := Lib.hid hd; have HJ := Lib.hid hJ; have HLI := Lib.hid hli; clear hK hd hJ hli; simp only [putD, Act.put, List.setIfInBounds_toArray, List.set_cons_succ, List.set_cons_zero, Nat.zero_add, Nat.reduceAdd] at HK ⊢; refine ⟨rfl, ?_⟩)
        obtain ⟨hF, t0, t1, t2⟩ := HJ.out
        have hz := hF.size
        rw [hz1] at hz
        gi_wp2
        exact HK.out _ _ ⟨hF.alloc (by omega) _, t0.alloc (by omega) _, t1.alloc (by omega) _, t2.bs HLI.out (by omega) (by omega) rfl⟩
      · (intro val l vo W hli hd hJ K hK; have HK := Lib.hid hK; have HD := Lib.hid hd; have HJ := Lib.hid hJ; have HLI := Lib.hid hli; clear hK hd hJ hli; simp only [putD, Act.put, List.setIfInBounds_toArray, List.set_cons_succ, List.set_cons_zero, Nat.zero_add, Nat.reduceAdd] at HK ⊢; refine ⟨rfl, ?_⟩)
        obtain ⟨hF, t0, t1, t2⟩ := HJ.out
        gi_wp2
        exact HK.out _ _ ⟨hF, t0, t1, t2.addr⟩
      · (intro val l vo W hli hd hJ K hK; have HK := Lib.hid hK; have HD := Lib.hid hd; have HJ := Lib.hid hJ; have HLI := Lib.hid hli; clear hK hd hJ hli; simp only [putD, Act.put, List.setIfInBounds_toArray, List.set_cons_succ, List.set_cons_zero, Nat.zero_add, Nat.reduceAdd] at HK ⊢; refine ⟨rfl, ?_⟩)
        obtain ⟨hF, t0, t1, t2⟩ := HJ.out
        obtain ⟨hl1, hv1⟩ : l 9 = true ∧ val 9 = vo 9 := HD.out.1
        have e1 := hv1.trans (t2.fa hl1)
        have hl5 : l 17 = false := t2.late (.inl HLI.out)
        have cc := t2.cell.1
        rw [hl5] at cc
        simp only [Bool.false_eq_true, if_false] at cc
        rw [e1] at HK ⊢
        clear e1 hv1 hl1 HD
        gi_wp2
        exact HK.out _ _ ⟨hF, t0, t1, t2.load⟩
      · (intro val l vo W hli hd hJ K hK; have HK := Lib.hid hK; have HD := Lib.hid hd; have HJ := Lib.hid hJ; have HLI := Lib.hid hli; clear hK hd hJ hli; simp only [putD, Act.put, List.setIfInBounds_toArray, List.set_cons_succ, List.set_cons_zero, Nat.zero_add, Nat.reduceAdd] at HK ⊢; refine ⟨rfl, ?_⟩)
        obtain ⟨hF, t0, t1, t2⟩ := HJ.out
        have hz := hF.size
        rw [hz1] at hz
        obtain ⟨hl0, hv0⟩ : l 8 = true ∧ val 8 = vo 8 := HD.out.1
        obtain ⟨hl2, hv2⟩ : l 10 = true ∧ val 10 = vo 10 := HD.out.2.1
        have e2 := hv2.trans (t2.ld hl2)
        have hl5 : l 17 = false := t2.late (.inr HLI.out)
        have ho := t2.own hl0 HLI.out
        have hsrc := (HSRC.out W hF).2.2
        rw [hv0, e2] at HK ⊢
        clear hv2 HD
        refine opIn_append_any rfl _ _ _ 24 rfl (w.heap.size + 2) 49 i2 (.agg #[I 0, I 0, I 0]) 3 24 Tryd.underlying24 hi2 hi21 hi22 hi23 rfl (by decide) _ 0 [] rfl ho A3 v.ar.length q3 (flat3 v.ar) rfl (flat3_len _) hsrc (flat3_one _) (by unfold maxLen; omega) (by omega) (by omega) ?_
        intro v' w' ho' hg
        rw [Nat.zero_add, List.nil_append] at ho'
        have hb : w.heap.size < W.heap.size := by omega
        rw [hl5] at t2
        have ht2 := t2.append hl0 hl2 HLI.out hb (by omega) ho' hg
        rw [← hl5] at ht2
        exact HK.out _ _ ⟨hF.grown hg (by omega) (fun g e => .inl (ho.lt g e).1), t0.grown hb (by omega) ho (by decide) hg, t1.grown hb (by omega) ho (by decide) hg, ht2⟩
      · (intro val l vo W hli hd hJ K hK; have HK := Lib.hid hK; have HD := Lib.hid hd; have HJ := Lib.hid hJ; have HLI := Lib.hid hli; clear hK hd hJ hli; simp only [putD, Act.put, List.setIfInBounds_toArray, List.set_cons_succ, List.set_cons_zero, Nat.zero_add, Nat.reduceAdd] at HK ⊢; refine ⟨rfl, ?_⟩)
        obtain ⟨hF, t0, t1, t2⟩ := HJ.out
        gi_wp2
        exact HK.out _ _ ⟨hF, t0.addr2, t1, t2⟩
      · (intro val l vo W hli hd hJ K hK; have HK := Lib.hid hK; have HD := Lib.hid hd; have HJ := Lib.hid hJ; have HLI := Lib.hid hli; clear hK hd hJ hli; simp only [putD, Act.put, List.setIfInBounds_toArray, List.set_cons_succ, List.set_cons_zero, Nat.zero_add, Nat.reduceAdd] at HK ⊢; refine ⟨rfl, ?_⟩)
        obtain ⟨hF, t0, t1, t2⟩ := HJ.out
        obtain ⟨hl4, hv4⟩ : l 12 = true ∧ val 12 = vo 12 := HD.out.1
        obtain ⟨hl3, hv3⟩ : l 3 = true ∧ val 3 = vo 3 := HD.out.2.1
        have e1 := hv4.trans (t0.fb hl4)
        obtain ⟨Aq, kq, cq, hq⟩ := own_slice (t0.app hl3)
        have e2 := hv3.trans hq
        obtain ⟨y0, y1⟩ := t0.cell
        have ht := t0.store (by omega) hl3
        rw [e1, e2] at HK ⊢
        rw [hq] at ht
        have HT := Lib.hid ht
        have HQ := Lib.hid hq
        clear e1 e2 hv3 hv4 hl3 hl4 ht hq HD
        gi_wp2
        refine HK.out undef _ ⟨hF.setCell (.inr rfl) _, ?_, t1.stored (by omega) (by decide) _, t2.stored (by omega) (by decide) _⟩
        have ht := HT.out
        rw [← HQ.out] at ht ⊢
        exact ht
      · (intro val l vo W hli hd hJ K hK; have HK := Lib.hid hK; have HD := Lib.hid hd; have HJ := Lib.hid hJ; have HLI := Lib.hid hli; clear hK hd hJ hli; simp only [putD, Act.put, List.setIfInBounds_toArray, List.set_cons_succ, List.set_cons_zero, Nat.zero_add, Nat.reduceAdd] at HK ⊢; refine ⟨rfl, ?_⟩)
        obtain ⟨hF, t0, t1, t2⟩ := HJ.out
        gi_wp2
        exact HK.out _ _ ⟨hF, t0, t1.addr2, t2⟩
      · (intro val l vo W hli hd hJ K hK; have HK := Lib.hid hK; have HD := Lib.hid hd; have HJ := Lib.hid hJ; have HLI := Lib.hid hli; clear hK hd hJ hli; simp only [putD, Act.put, List.setIfInBounds_toArray, List.set_cons_succ, List.set_cons_zero, Nat.zero_add, Nat.reduceAdd] at HK ⊢; refine ⟨rfl, ?_⟩)
        obtain ⟨hF, t0, t1, t2⟩ := HJ.out
        obtain ⟨hl4, hv4⟩ : l 14 = true ∧ val 14 = vo 14 := HD.out.1
        obtain ⟨hl3, hv3⟩ : l 7 = true ∧ val 7 = vo 7 := HD.out.2.1
        have e1 := hv4.trans (t1.fb hl4)
        obtain ⟨Aq, kq, cq, hq⟩ := own_slice (t1.app hl3)
        have e2 := hv3.trans hq
        obtain ⟨y0, y1⟩ := t1.cell
        have ht := t1.store (by omega) hl3
        rw [e1, e2] at HK ⊢
        rw [hq] at ht
        have HT := Lib.hid ht
        have HQ := Lib.hid hq
        clear e1 e2 hv3 hv4 hl3 hl4 ht hq HD
        gi_wp2
        refine HK.out undef _ ⟨hF.setCell (.inr rfl) _, t0.stored (by omega) (by decide) _, ?_, t2.stored (by omega) (by decide) _⟩
        have ht := HT.out
        rw [← HQ.out] at ht ⊢
        exact ht
      · (intro val l vo W hli hd hJ K hK; have HK := Lib.hid hK; have HD := Lib.hid hd; have HJ := Lib.hid hJ; have HLI := Lib.hid hli; clear hK hd hJ hli; simp only [putD, Act.put, List.setIfInBounds_toArray, List.set_cons_succ, List.set_cons_zero, Nat.zero_add, Nat.reduceAdd] at HK ⊢; refine ⟨rfl, ?_⟩)
        obtain ⟨hF, t0, t1, t2⟩ := HJ.out
        gi_wp2
        exact HK.out _ _ ⟨hF, t0, t1, t2.addr2⟩
      · (intro val l vo W hli hd hJ K hK; have HK := Lib.hid hK; have HD := Lib.hid hd; have HJ := Lib.hid hJ; have HLI := Lib.hid hli; clear hK hd hJ hli; simp only [putD, Act.put, List.setIfInBounds_toArray, List.set_cons_succ, List.set_cons_zero, Nat.zero_add, Nat.reduceAdd] at HK ⊢; refine ⟨rfl, ?_⟩)
        obtain ⟨hF, t0, t1, t2⟩ := HJ.out
        obtain ⟨hl4, hv4⟩ : l 16 = true ∧ val 16 = vo 16 := HD.out.1
        obtain ⟨hl3, hv3⟩ : l 11 = true ∧ val 11 = vo 11 := HD.out.2.1
        have e1 := hv4.trans (t2.fb hl4)
        obtain ⟨Aq, kq, cq, hq⟩ := own_slice (t2.app hl3)
        have e2 := hv3.trans hq
        obtain ⟨y0, y1⟩ := t2.cell
        have ht := t2.store (by omega) hl3
        rw [e1, e2] at HK ⊢
        rw [hq] at ht
        have HT := Lib.hid ht
        have HQ := Lib.hid hq
        clear e1 e2 hv3 hv4 hl3 hl4 ht hq HD
        gi_wp2
        refine HK.out undef _ ⟨hF.setCell (.inr rfl) _, t0.stored (by omega) (by decide) _, t1.stored (by omega) (by decide) _, ?_⟩
        have ht := HT.out
        rw [← HQ.out] at ht ⊢
        exact ht
    · intro l val W hall hJ
      obtain ⟨hF, t0, t1, t2⟩ := hJ
      have y0 := t0.cell
      have y1 := t1.cell
      have y2 := t2.cell
      rw [hall 13 (by decide)] at y0
      rw [hall 15 (by decide)] at y1
      rw [hall 17 (by decide)] at y2
      simp only [if_true] at y0 y1 y2
      have o0 := t0.app (hall 3 (by decide))
      have o1 := t1.app (hall 7 (by decide))
      have o2 := t2.app (hall 11 (by decide))
      have f0 : ∃ B c, val 3 = .slice B v.rm.length c := by rcases own_formS o0 with ⟨h1, h2⟩ | ⟨g, cap, h1, _⟩; exact ⟨none, 0, by rw [h1, h2]⟩; exact ⟨_, _, h1⟩
      have f1 : ∃ B c, val 7 = .slice B v.tr.length c := by rcases own_formS o1 with ⟨h1, h2⟩ | ⟨g, cap, h1, _⟩; exact ⟨none, 0, by rw [h1, h2]⟩; exact ⟨_, _, h1⟩
      have f2 : ∃ B c, val 11 = .slice B v.ar.length c := by rcases own_formS o2 with ⟨h1, h2⟩ | ⟨g, cap, h1, _⟩; exact ⟨none, 0, by rw [h1, h2]⟩; exact ⟨_, _, h1⟩
      obtain ⟨B1, d1, f0⟩ := f0
      obtain ⟨B2, d2, f1⟩ := f1
      obtain ⟨B3, d3, f2⟩ := f2
      rw [f0] at o0 y0
      rw [f1] at o1 y1
      rw [f2] at o2 y2
      simp only [putD, Act.put, List.setIfInBounds_toArray, List.set_cons_succ, List.set_cons_zero]
      clear t0 t1 t2 HSRC
      have HR := Lib.hid (Rows3.mk o0 o1 o2)
      have hzF := hF.size
      have HBx : Hid (Box W w.heap.size [.slice B1 v.rm.length d1, .slice B2 v.tr.length d2, .slice B3 v.ar.length d3]) := Lib.hid ⟨by omega, fun k hk => by
        rcases k with _ | _ | _ | k
        · exact y0
        · exact y1
        · exact y2
        · simp at hk; omega⟩
      clear o0 o1 o2 f0 f1 f2 y0 y1 y2
      go_wp2_with (fail)
      go_meet
      exact ⟨B1, B2, B3, d1, d2, d3, hF, HR, HBx⟩
  case rest =>
    obtain ⟨B1, B2, B3, d1, d2, d3, hF, HR, HBx⟩ := hcut
    have hbz := b2.frm hF (by omega) (by omega)
    obtain ⟨x0, z0⟩ := hbz.at_ 0 _ rfl
    obtain ⟨x1, z1⟩ := hbz.at_ 1 _ rfl
    obtain ⟨x2, z2⟩ := hbz.at_ 2 _ rfl
    obtain ⟨y0, _⟩ := HBx.out.at_ 0 _ rfl
    obtain ⟨y1, _⟩ := HBx.out.at_ 1 _ rfl
    obtain ⟨y2, _⟩ := HBx.out.at_ 2 _ rfl
    have HW := Lib.hid (hz _ hF)
    have hzF := hF.size
    have hb2 := hbz.1
    have hb2' := hbz
    clear b1 b2 hbz c0 c1 c2 HSRC hB1 hz
    go_wp2_with (fail)
    have hbw := ((hb2'.set 0 (.slice B1 v.rm.length d1)).set 1 (.slice B2 v.tr.length d2)).set 2 (.slice B3 v.ar.length d3)
    have hown : ∀ {W : World} {e : TypeId} {sz n k : Nat} {u r : Value} {xs : List Value}, W.ownsRow (w.heap.size + 2) e sz r n xs → (W.setCell ⟨w.heap.size + 1, k, none⟩ u).ownsRow (w.heap.size + 2) e sz r n xs := fun ho => own_at ho fun g hg => Below.heap_setCell _ _ _ _ (by
      have h := (ho.lt g hg).1
      simp
      omega)
    have HRW := Lib.hid (Rows3.mk (hown (k := 2) (u := .slice B3 v.ar.length d3) (hown (k := 1) (u := .slice B2 v.tr.length d2) (hown (k := 0) (u := .slice B1 v.rm.length d1) HR.out.r1))) (hown (k := 2) (u := .slice B3 v.ar.length d3) (hown (k := 1) (u := .slice B2 v.tr.length d2) (hown (k := 0) (u := .slice B1 v.rm.length d1) HR.out.r2))) (hown (k := 2) (u := .slice B3 v.ar.length d3) (hown (k := 1) (u := .slice B2 v.tr.length d2) (hown (k := 0) (u := .slice B1 v.rm.length d1) HR.out.r3))))
    have HBW : Hid (Below w.heap.size w (((wc.setCell ⟨w.heap.size + 1, 0, none⟩ (.slice B1 v.rm.length d1)).setCell ⟨w.heap.size + 1, 1, none⟩ (.slice B2 v.tr.length d2)).setCell ⟨w.heap.size + 1, 2, none⟩ (.slice B3 v.ar.length d3))) := Lib.hid (((HW.out.setCell (p := ⟨w.heap.size + 1, 0, none⟩) (by dsimp only; omega) _).setCell (p := ⟨w.heap.size + 1, 1, none⟩) (by dsimp only; omega) _).setCell (p := ⟨w.heap.size + 1, 2, none⟩) (by dsimp only; omega) _)
    obtain ⟨a0, _⟩ := hbw.at_ 0 _ rfl
    obtain ⟨a1, _⟩ := hbw.at_ 1 _ rfl
    obtain ⟨a2, _⟩ := hbw.at_ 2 _ rfl
    obtain ⟨wz, hwz⟩ : ∃ x, ((wc.setCell ⟨w.heap.size + 1, 0, none⟩ (.slice B1 v.rm.length d1)).setCell ⟨w.heap.size + 1, 1, none⟩ (.slice B2 v.tr.length d2)).setCell ⟨w.heap.size + 1, 2, none⟩ (.slice B3 v.ar.length d3) = x := ⟨_, rfl⟩
    rw [hwz] at a0 a1 a2 HRW HBW ⊢
    clear hwz hbw hown x0 x1 x2 z0 z1 z2 y0 y1 y2 HR HW
    refine bodyPost_ret (v := visV v B1 B2 B3 d1 d2 d3) ?_ rfl ?_
    · simp [results, Tryd.results23, go_sem, a0, a1, a2]
    · exact ⟨⟨B1, B2, B3, d1, d2, d3, rfl, ⟨own_base HRW.out.r1 (by omega), own_base HRW.out.r2 (by omega), own_base HRW.out.r3 (by omega)⟩⟩, HBW.out⟩
end Go.Proofs.YtomfnldlnoiloaaDoor
