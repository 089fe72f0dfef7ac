/- Excess: the body of its walk at a well. -/
import Derived.Test.YtgdilbilhajgaaaDoorE23
namespace Go.Proofs.YtgdilbilhajgaaaDoor
set_option linter.unusedVariables false
set_option linter.unusedSimpArgs false
open Go Go.RowKit

def CurW (B : Nat) (W : World) (ob : Nat) (lim : Int) (k : Nat) : Prop := ∃ v, Box W ob [I 0, v] ∧ W.ownsRow B 3 1 v k ((leafL lim (k - 1)).map I) ∧ ∃ cs fr, W.heap[ob]? = some (.cells cs 89 fr)
theorem curW_new (w : World) (lim : Int) (h : 0 ≤ lim) : CurW w.heap.size ((w.alloc (.cells #[I 0] 3)).alloc (.cells #[I 0, .slice (some ⟨w.heap.size, 0, none⟩) 1 1] 89)) (w.heap.size + 1) lim 1 := by
  have hb := Box.new (w.alloc (.cells #[I 0] 3)) [I 0, .slice (some ⟨w.heap.size, 0, none⟩) 1 1] 89
  rw [World.size_alloc] at hb
  have h2 := World.alloc_heap_new (w.alloc (.cells #[I 0] 3)) (.cells #[I 0, .slice (some ⟨w.heap.size, 0, none⟩) 1 1] 89)
  rw [World.size_alloc] at h2
  have h3 : ((w.alloc (.cells #[I 0] 3)).alloc (.cells #[I 0, .slice (some ⟨w.heap.size, 0, none⟩) 1 1] 89)).heap[w.heap.size]? = some (.cells #[I 0] 3) := (Below.heap_alloc _ _ _ (by simp)).trans (World.alloc_heap_new w _)
  refine ⟨_, hb, ?_, _, _, h2⟩
  rw [Nat.sub_self, leafL_zero h]
  exact ⟨rfl, .inr ⟨w.heap.size, 1, #[I 0], rfl, Nat.le_refl _, h3, Nat.le_refl _, by unfold maxLen; omega, rfl, rfl⟩⟩
theorem grownBy_setC (W : World) (p : Addr) (v : Value) : W.grownBy (W.setCell p v) (some p.block) :=
  ⟨rfl, rfl, rfl, (KeepsWalks.setCell W _ v).size, fun k _ hk => Below.heap_setCell _ _ _ k (fun e => hk (by rw [e]))⟩
theorem ty_set {W : World} {b t : Nat} {p : Addr} {u : Value} (h : ∃ cs fr, W.heap[b]? = some (.cells cs t fr)) : ∃ cs fr, (W.setCell p u).heap[b]? = some (.cells cs t fr) := by
  obtain ⟨cs, fr, h⟩ := h
  by_cases e : b = p.block
  · subst e
    exact ⟨if p.spot.isSome = true then cs else cs.setIfInBounds p.off u, fr, by simp [World.setCell, Array.getElem?_modify, h]⟩
  · exact ⟨cs, fr, (Below.heap_setCell _ _ _ _ e).trans h⟩

set_option maxRecDepth 100000 in
set_option maxHeartbeats 8000000 in
theorem clo47w (tb Mb mb sb T U S : Nat) (A : Option Addr) (c : Nat) (m : List (Int × Int)) (l : List (Int × Int × Int)) (i : Nat) (hi : i < m.length) (hkn : kids m i = []) (hfe : ∃ x, Feas m l x) (w00 w : World) (hT00 : TreeAt w00 T A c m) (hS00 : SpB w00 S (toldL l m.length)) (hB00 : Below w00.heap.size w00 w)
    (z : tb < w00.heap.size ∧ mb < w00.heap.size ∧ sb < w00.heap.size) (k1 : w00.cell? ⟨tb, 0, none⟩ = some (.pointer (some ⟨T, 0, none⟩))) (k3 : w00.cell? ⟨mb, 0, none⟩ = some (.slice A m.length c)) (k4 : w00.cell? ⟨sb, 0, none⟩ = some (.slice (some ⟨S, 0, none⟩) m.length m.length))
    (zU : w00.heap.size ≤ U ∧ w00.heap.size ≤ Mb ∧ Mb < w.heap.size ∧ Mb ≠ U) (k2 : w.cell? ⟨Mb, 0, none⟩ = some (.slice (some ⟨U, 0, none⟩) m.length m.length)) (hM : Much w U m l (i + 1)) :
    Calls Tryd.prog 47 (#[I i] ++ #[.pointer (some ⟨tb, 0, none⟩), .pointer (some ⟨Mb, 0, none⟩), .pointer (some ⟨mb, 0, none⟩), .pointer (some ⟨sb, 0, none⟩)]) w fun e w' => e = .returned (.tuple #[]) ∧ Much w' U m l i ∧ Frm w.heap.size (· = U) w w' := by
  obtain ⟨j0, hj0, hj1, hj2, hj3⟩ := info_parts info3
  have hu2 : Tryd.prog.underlying 26 = some (.slice 3) := Tryd.underlying26
  have HU := Lib.hid hu2; have HJ0 := Lib.hid hj0; have HJ1 := Lib.hid hj1; have HJ2 := Lib.hid hj2; have HJ3 := Lib.hid hj3
  clear hu2 hj0 hj1 hj2 hj3
  simp only [List.append_toArray, List.cons_append, List.nil_append]
  obtain ⟨vs, hMb, hMl, hMe⟩ := hM
  have HMB := Lib.hid hMb
  have HME := Lib.hid hMe
  have HML := Lib.hid hMl
  have hUz := hMb.1
  obtain ⟨Fb, hFz, f1, hrow⟩ := hT00.from_
  obtain ⟨RA, rc, r1, r2, r3, r4⟩ := hrow i hi
  rw [hkn] at r1 r4
  have hTz := hT00.hT
  have HLM : Hid (0 ≤ limW m i ∧ limW m i ≤ 1600) := Lib.hid (hT00.ok.lim i hi)
  have hn16 := hT00.ok.le
  have HMO := Lib.hid hT00.ok
  have HFE := Lib.hid hfe
  have hkl : (kids m i).length ≤ 16 := Nat.le_trans (by have := List.length_filter_le (fun k => decide (parW m k = (i : Int))) (List.range m.length); simpa [kids] using this) hn16
  have b0 : (0 : Int) ≤ (i : Int) := by omega
  have b1 : (i : Int) < (m.length : Int) := by omega
  have HHM := Lib.hid hT00.hm
  have hSz := hS00.1
  obtain ⟨t0, t1, _, _⟩ := hS00.2 i (by rw [toldL_len]; exact hi)
  rw [toldL_get] at t0 t1
  generalize hTT : toldW l i = TT at t0 t1
  obtain ⟨Tlo, Thi⟩ := TT
  have HTT := Lib.hid hTT
  simp only at t0 t1
  clear hTT
  obtain ⟨z1, z3, z4⟩ := z
  obtain ⟨u1, u2, u3, u4⟩ := zU
  have HLOW : Hid (∀ W, Below w00.heap.size w00 W → W.cell? ⟨T, 1, none⟩ = some (.slice (some ⟨Fb, 0, none⟩) m.length m.length) ∧ W.cell? ⟨Fb, i, none⟩ = some (.slice RA 0 rc) ∧ W.cell? ⟨tb, 0, none⟩ = some (.pointer (some ⟨T, 0, none⟩)) ∧ W.cell? ⟨mb, 0, none⟩ = some (.slice A m.length c) ∧
      W.cell? ⟨sb, 0, none⟩ = some (.slice (some ⟨S, 0, none⟩) m.length m.length) ∧ W.cell? ⟨S, i * 2, none⟩ = some (I Tlo) ∧ W.cell? ⟨S, i * 2 + 1, none⟩ = some (I Thi) ∧ Ints W W.heap.size RA ([] : List Int) ∧ Pairs W W.heap.size A m) := Lib.hid fun W hB =>
    ⟨(hB.cell (p := ⟨_, _, none⟩) hTz).trans f1, (hB.cell (p := ⟨_, _, none⟩) hFz).trans r1, (hB.cell (p := ⟨_, _, none⟩) z1).trans k1, (hB.cell (p := ⟨_, _, none⟩) z3).trans k3, (hB.cell (p := ⟨_, _, none⟩) z4).trans k4,
      (hB.cell (p := ⟨_, _, none⟩) hSz).trans t0, (hB.cell (p := ⟨_, _, none⟩) hSz).trans t1, (r4.below hB).more hB.size, (HHM.out.below hB).more hB.size⟩
  have HB00 := Lib.hid hB00
  have hzz := hB00.size
  obtain ⟨l1, l2, l3, l4, l5, l6, l7, _, _⟩ := HLOW.out w hB00
  have q1 : T < w.heap.size := by omega
  have q2 : Fb < w.heap.size := by omega
  have q3 : tb < w.heap.size := by omega
  have q4 : mb < w.heap.size := by omega
  have q5 : sb < w.heap.size := by omega
  have q6 : S < w.heap.size := by omega
  clear hrow hT00 f1 r1 r4 hfe hS00 k1 k3 k4 hMb hMe hMl hB00 t0 t1
  go_enter Tryd.func47, Tryd.ntmps47
  go_wp2_with (fail)
  have hBz : Below w.heap.size w ((w.alloc (.cells #[I 0] 3)).alloc (.cells #[I 0, .slice (some ⟨w.heap.size, 0, none⟩) 1 1] 89)) := by (repeat' (first | assumption | exact Below.refl _ _ | refine Below.drew ?_ | refine below_drewN ?_ _ | refine Below.setCell ?_ (by first | omega | (simp; done) | (simp; omega)) _ | refine Below.alloc ?_ (by first | omega | (simp; done) | (simp; omega)) _ | refine Below.trans ?_ (Below.mono (by assumption) (by first | omega | (simp; done) | (simp; omega)))))
  have HC0 : Hid (CurW w.heap.size ((w.alloc (.cells #[I 0] 3)).alloc (.cells #[I 0, .slice (some ⟨w.heap.size, 0, none⟩) 1 1] 89)) (w.heap.size + 1) (limW m i) 1) := Lib.hid (curW_new w (limW m i) HLM.out.1)
  generalize (w.alloc (.cells #[I 0] 3)).alloc (.cells #[I 0, .slice (some ⟨w.heap.size, 0, none⟩) 1 1] 89) = wz at *
  clear l1 l2 l3 l4 l5 l6 l7
  refine wp_loop_rounds 1 ?_
  rw [rounds_succ]
  go_wp2_with (fail)
  go_loopw [9] (fun s wr => ∃ k : Nat, 1 ≤ k ∧ k ≤ 101 ∧ s = I k ∧ Below w.heap.size w wr ∧ Hid (CurW w.heap.size wr (w.heap.size + 1) (limW m i) k)) (fun s _ => 101 - (intOf s).toNat)
  case atStart => exact ⟨1, Nat.le_refl _, by omega, rfl, hBz, HC0⟩
  case round =>
    clear HC0 hBz
    obtain ⟨k, hk0, hk, rfl, hB, HC⟩ := hrel
    have hBr : Below w00.heap.size w00 wr := HB00.out.trans (hB.mono hzz)
    have hwz := hB.size
    obtain ⟨l1, l2, l3, l4, l5, l6, l7, hI0, hP0⟩ := HLOW.out wr hBr
    obtain ⟨v, e1, e2, e3⟩ := HC.out
    obtain ⟨x0, y0⟩ := e1.at_ 0 _ rfl
    obtain ⟨x1, y1⟩ := e1.at_ 1 _ rfl
    have HE1 := Lib.hid e1
    have k2' := (hB.cell (p := ⟨Mb, 0, none⟩) u3).trans k2
    have hobz := e1.1
    by_cases hlt : k ≤ 100
    · obtain ⟨b5, o5, rfl, hbz5, hcs5⟩ := hP0 (by omega)
      obtain ⟨_, w1⟩ := hcs5 i hi
      have e5 : m[i].2 = limW m i := by simp [limW, List.getD, hi]
      rw [e5] at w1
      have HLS : Hid (leafL (limW m i) (k + 1 - 1) = leafL (limW m i) (k - 1) ++ [max 0 ((k : Int) - limW m i)]) := Lib.hid (by
        obtain ⟨k', rfl⟩ : ∃ k', k = k' + 1 := ⟨k - 1, by omega⟩
        exact leafL_succ _ _)
      have hlm := HLM.out
      generalize limW m i = lim at *
      have hsub : IntKind.i64.wrap ((k : Int) - lim) = (k : Int) - lim := i64_small (by omega)
      have hd1 : decide ((k : Int) ≤ 100) = true := by simp; omega
      have hd2 : decide (k ≤ 100) = true := by simp; omega
      have HO := Lib.hid e2
      have HTY := Lib.hid e3
      have HHB := Lib.hid hB
      have hmax : max (0 : Int) ((k : Int) - lim) = max 0 ((k : Int) - lim) := rfl
      have hmbw : mb < wr.heap.size := by omega
      clear e2 e3 hI0 hP0 hcs5 hB HC hBr
      go_wp2_with (fail)
      refine (wpIn_wide (n := 9)).1 ?_
      refine wpIn_region_plan (Plan.ons [0, 1, 2, 3, 4, 5, 6, 7, 8, 9, 10, 11, 12, 13] .fin) [0, 1] (fun W' => W'.cell? ⟨w.heap.size + 1, 1, none⟩ = some v) [11, 13] rfl (by kernel_rfl) (by kernel_rfl) (fun _ d _ _ _ h => by cases d <;> exact h) (by simpa using x1) ?_
      (refine ordQ_held (.pointer (some ⟨w.heap.size + 1, 1, none⟩)) rfl rfl rfl rfl (fun W' hC' => ?_) (fun K hK => ?_); (focus (obtain _ := x1; go_simp; try exact ⟨rfl, rfl⟩)); go_simp; refine hK _ ?_; clear hK K)
      (refine ordQ_held (v) rfl rfl rfl rfl (fun W' hC' => ?_) (fun K hK => ?_); (focus (obtain e9 := hC'; go_simp; try exact ⟨rfl, rfl⟩)); go_simp; refine hK _ ?_; clear hK K)
      iterate 8 (refine ordQ_li rfl rfl rfl (fun K hK => ?_); go_simp; refine hK _ ?_; clear hK K)
      refine ordQ_hv rfl rfl rfl (fun K hK => ?_)
      gi_wp2
      refine hK _ _ (fun _ => by simp [go_sem, x1, hobz]) ?_
      clear hK K
      refine ordQ_hv rfl rfl rfl (fun K hK => ?_)
      refine opIn_append_own rfl _ _ _ 26 rfl w.heap.size 3 j0 (I 0) 1 8 HU.out HJ0.out HJ1.out HJ2.out HJ3.out rfl (by decide) v k _ rfl ((HO.out.alloc (.cells #[I (max 0 ((k : Int) - lim))] 3))) ⟨wr.heap.size, 0, none⟩ 1 1 [I (max 0 ((k : Int) - lim))] rfl rfl (cell_one_new'' _ _ _) (by simp [Value.oneCell']) (by unfold maxLen; omega) (by omega) (by simp; omega) ?_
      intro v' w6 hown' hgrow _
      obtain ⟨gv, capv, hve⟩ : ∃ gv capv, v' = .slice (some ⟨gv, 0, none⟩) (k + 1) capv := by
        rcases own_form2 hown' with ⟨_, h0⟩ | ⟨g', cap', h4, _⟩
        · omega
        · exact ⟨g', cap', h4⟩
      subst hve
      have HO1 := Lib.hid hown'
      have hgz := hgrow.size
      have hbne : some (w.heap.size + 1) ≠ v.ownBlock := fun e => by
        obtain ⟨cs, fr, h3⟩ := HTY.out
        rcases HO.out.2 with h4 | ⟨g', cap', cur, h4, _, h5, _⟩
        · rw [h4.1] at e; cases e
        · rw [h4] at e
          injection e with e
          have e : w.heap.size + 1 = g' := e
          rw [← e, h3] at h5
          injection h5 with h5
          injection h5 with _ h5
          cases h5
      have hE6 : Box w6 (w.heap.size + 1) [I 0, v] := ((HE1.out.alloc _).drew).grown hgrow (fun e => hbne e.symm)
      have hT6 : ∃ cs fr, w6.heap[w.heap.size + 1]? = some (.cells cs 89 fr) := by
        obtain ⟨cs, fr, h3⟩ := HTY.out
        exact ⟨cs, fr, (hgrow.block (w.heap.size + 1) (by simp; omega) hbne).trans ((Below.heap_alloc _ _ _ (by omega)).trans h3)⟩
      have hB6 : Below w.heap.size w w6 := ((HHB.out.alloc hwz (.cells #[I (max 0 ((k : Int) - lim))] 3)).drew).grown hgrow (by simp; omega) (fun g e => (HO.out.lt g e).1)
      obtain ⟨x0', y0'⟩ := hE6.at_ 0 _ rfl
      obtain ⟨x1', y1'⟩ := hE6.at_ 1 _ rfl
      refine hK _ _ (fun h => by cases h) ?_
      clear hK K hown' hgrow
      (refine ordQ_li rfl rfl rfl (fun K hK => ?_); go_simp; refine hK _ ?_; clear hK K)
      refine ordQ_hv rfl rfl rfl (fun K hK => ?_)
      gi_wp2
      refine hK _ _ (fun h => by cases h) ?_
      clear hK K
      refine ordQ_fin ?_
      have hB7 : Below w.heap.size w (w6.setCell ⟨w.heap.size + 1, 1, none⟩ (.slice (some ⟨gv, 0, none⟩) (k + 1) capv)) := hB6.setCell (by simp) _
      have HC7 : Hid (CurW w.heap.size (w6.setCell ⟨w.heap.size + 1, 1, none⟩ (.slice (some ⟨gv, 0, none⟩) (k + 1) capv)) (w.heap.size + 1) lim (k + 1)) := Lib.hid ⟨_, hE6.set 1 _, (by
        rw [HLS.out, List.map_append]
        refine World.ownsRow.kept HO1.out (grownBy_setC w6 ⟨w.heap.size + 1, 1, none⟩ _) (.inr fun e => ?_)
        obtain ⟨cs, fr, h3⟩ := hT6
        have e : gv = w.heap.size + 1 := by injection e
        rcases HO1.out.2 with h4 | ⟨g', cap', cur, h4, _, h5, _⟩
        · cases h4.1
        · injection h4 with h4
          injection h4 with h4
          injection h4 with h4
          rw [← h4, e, h3] at h5
          injection h5 with h5
          injection h5 with _ h5
          cases h5), ty_set hT6⟩
      clear x0' y0' x1' y1' hE6 hT6 hbne
      go_wp2
      go_roundw
      case rel => exact ⟨k + 1, by omega, by omega, by go_num, hB7, HC7⟩
      case measure => simp [intOf]; omega
    · obtain rfl : k = 101 := by omega
      obtain ⟨L, hL⟩ : ∃ L, L = leafL (limW m i) 100 := ⟨_, rfl⟩
      obtain ⟨f, hf⟩ : ∃ f : Int, f = 0 := ⟨_, rfl⟩
      rw [show 101 - 1 = 100 from rfl, ← hL] at e2
      rcases own_form2 e2 with ⟨_, h2⟩ | ⟨Sg, cc, rfl, g1, g2, g3, g4⟩
      · omega
      have x0n : wr.cell? ⟨w.heap.size + 1, 0, none⟩ = some (I f) := by rw [hf]; exact x0
      have e6 : ∀ k (h : k < L.length), wr.cell? ⟨Sg, 0 + k, none⟩ = some (I L[k]) := fun k hk => by
        have := e2.cells (g := Sg) rfl k (I L[k]) (by simp [hk])
        rwa [Addr.add_lit] at this
      have hne : Sg ≠ w.heap.size + 1 := fun e => by
        obtain ⟨cs, fr, h3⟩ := e3
        rcases e2.2 with h4 | ⟨g', cap', cur, h4, _, h5, _⟩
        · cases h4.1
        · injection h4 with h4
          injection h4 with h4
          injection h4 with h4
          subst h4
          rw [e, h3] at h5
          injection h5 with h5
          injection h5 with _ h5
          cases h5
      obtain ⟨o, ho⟩ : ∃ o : Nat, o = 0 := ⟨_, rfl⟩
      obtain ⟨N, hN⟩ : ∃ N : Nat, N = 101 := ⟨_, rfl⟩
      rw [← ho] at e6
      have e5 : Sg < wr.heap.size ∧ Sg ≠ w.heap.size + 1 ∧ w.heap.size ≤ Sg := ⟨g2, hne, g1⟩
      have e4 : N ≤ cc ∧ cc ≤ 9223372036854775807 := by omega
      have e7 : BestP (fun v c => 0 ≤ v ∧ v ≤ 100 ∧ c = max 0 (v - limW m i)) f L := by rw [hf, hL]; exact best_leaf _
      have e2 : L.length = N := by rw [hL, leafL_len, hN]
      have x1n : wr.cell? ⟨w.heap.size + 1, 1, none⟩ = some (.slice (some ⟨Sg, o, none⟩) N cc) := by rw [ho, hN]; exact x1
      clear x0 x1 y0 y1 e1 HE1
      have p1 : 0 ≤ f := by omega
      have p3 : True := trivial
      have hcut := best_cut (T := (Tlo, Thi)) e7 (by
        obtain ⟨v, c', h⟩ := att_ne (l := l) HMO.out HFE.out hi
        obtain ⟨h1, h2⟩ := (att_well hi hkn).1 h
        rw [HTT.out] at h2
        exact ⟨v, c', h1, h2⟩)
      obtain ⟨kk, nn, k5, k6, k7, k8, k9⟩ := hcut
      rw [e2] at k6 k8
      have HBE : Hid (BestP (Att m l i) (f + (kk : Int)) ((L.take nn).drop kk)) := Lib.hid (best_well hi hkn (by rw [HTT.out]; exact k9))
      have HCT : Hid (∀ W, Calls Tryd.prog 49 #[.agg #[I f, .slice (some ⟨Sg, o, none⟩) N cc], .agg #[I Tlo, I Thi]] W fun e w' => e = .returned (.agg #[I (f + (kk : Int)), .slice (some ⟨Sg, o + kk, none⟩) (nn - kk) (cc - kk)]) ∧ Below W.heap.size W w') := Lib.hid fun W =>
        cut49 f Tlo Thi Sg o N cc kk nn W ⟨p1, by omega⟩ (by omega) e4 k5 k6 k7 k8
      have HEL := Lib.hid e6
      have HHB := Lib.hid hB
      have hlen : ((L.take nn).drop kk).length = nn - kk := by simp; omega
      have HMU : Hid (Much w U m l (i + 1)) := Lib.hid ⟨vs, HMB.out, HML.out, HME.out⟩
      obtain ⟨n1, n2, n3⟩ := e5
      clear e7 k7 k8 k9 e6 p3
      have hd1 : decide ((101 : Int) ≤ 100) = false := rfl
      clear ho hf hL hN HC e3
      go_wp2_with (fail)
      have hUw : U < wr.heap.size := by omega
      have hMw : Mb < wr.heap.size := by omega
      have hsw : sb < wr.heap.size := by omega
      refine (wpIn_wide (n := 9)).1 ?_
      refine wpIn_region_plan (Plan.ons [0, 1, 2, 3, 4, 5, 6, 7, 8, 9] .fin) [0, 1] (fun W' => Below wr.heap.size wr W') [9] rfl (by kernel_rfl) (by kernel_rfl) (fun _ d _ _ _ h => by cases d <;> exact h) (Below.refl _ _).drew ?_
      (refine ordQ_held (.slice (some ⟨U, 0, none⟩) m.length m.length) rfl rfl rfl rfl (fun W' hC' => ?_) (fun K hK => ?_); (focus (obtain e9 := (hC'.cell (p := ⟨Mb, 0, none⟩) hMw).trans k2'; go_simp; try exact ⟨rfl, rfl⟩)); go_simp; refine hK _ ?_; clear hK K)
      (refine ordQ_held (I i) rfl rfl rfl rfl (fun W' hC' => ?_) (fun K hK => ?_); (focus (obtain _ := k2'; go_simp; try exact ⟨rfl, rfl⟩)); go_simp; refine hK _ ?_; clear hK K)
      iterate 5 (refine ordQ_li rfl rfl rfl (fun K hK => ?_); go_simp; refine hK _ ?_; clear hK K)
      refine ordQ_hv rfl rfl rfl (fun K hK => ?_)
      gi_wp2_with (refine And.intro trivial ?_; gi_at_call 49; refine callsIn_wide.2 ((HCT.out _).mono ?_); rintro e w5 ⟨rfl, hB5⟩)
      have hb5 : Below wr.heap.size wr w5 := by simpa using (Below.refl _ _).drew.trans hB5
      refine hK _ _ (fun _ => hb5) ?_
      clear hK K hB5
      (refine ordQ_li rfl rfl rfl (fun K hK => ?_); go_simp; refine hK _ ?_; clear hK K)
      have hBw5 : Below w.heap.size w w5 := HHB.out.trans (hb5.mono hwz)
      have hbu : Box w5 U vs := HMB.out.call hBw5
      have hvl := HML.out
      obtain ⟨y0', z0'⟩ := hbu.at_ (i * 2) vs[i * 2] (by simp)
      obtain ⟨y1', z1'⟩ := hbu.at_ (i * 2 + 1) vs[i * 2 + 1] (by simp)
      generalize vs[i * 2] = vv0 at *
      generalize vs[i * 2 + 1] = vv1 at *
      refine ordQ_hv rfl rfl rfl (fun K hK => ?_)
      gi_wp2
      refine hK _ _ (fun h => by cases h) ?_
      clear hK K
      refine ordQ_fin ?_
      have HMF : Hid (Much ((w5.setCell ⟨U, i * 2, none⟩ (I (f + (kk : Int)))).setCell ⟨U, i * 2 + 1, none⟩ (.slice (some ⟨Sg, o + kk, none⟩) (nn - kk) (cc - kk))) U m l i) := Lib.hid ((HMU.out.call hBw5).set hi ⟨f + (kk : Int), Sg, o + kk, nn - kk, cc - kk, (L.take nn).drop kk, rfl, rfl, hlen, by omega, by omega, ⟨by have := hb5.size; omega, by omega⟩, fun j hj => by
        rw [hlen] at hj
        have := (hb5.cell (p := ⟨Sg, o + (kk + j), none⟩) n1).trans (HEL.out (kk + j) (by omega))
        rw [Nat.add_assoc, this]
        simp, HBE.out⟩)
      have HFF : Hid (Frm w.heap.size (· = U) w ((w5.setCell ⟨U, i * 2, none⟩ (I (f + (kk : Int)))).setCell ⟨U, i * 2 + 1, none⟩ (.slice (some ⟨Sg, o + kk, none⟩) (nn - kk) (cc - kk)))) := Lib.hid (((Frm.of_below (S := (· = U)) hBw5 (Nat.le_refl _)).setCell (p := ⟨U, i * 2, none⟩) (.inr rfl) _).setCell (p := ⟨U, i * 2 + 1, none⟩) (.inr rfl) _)
      go_wp2
      refine bodyPost_end (results_none rfl _ _ _) rfl ⟨rfl, HMF.out, HFF.out⟩
end Go.Proofs.YtgdilbilhajgaaaDoor
