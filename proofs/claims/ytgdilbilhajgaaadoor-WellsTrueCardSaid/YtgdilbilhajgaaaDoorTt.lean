/- WellsTrue: the walk. -/
import Derived.Test.YtgdilbilhajgaaaDoorTa
namespace Go.Proofs.YtgdilbilhajgaaaDoor
set_option linter.unusedVariables false
set_option linter.unusedSimpArgs false
open Go Go.RowKit

def Tok (_ : Nat) : Prop := True
set_option maxRecDepth 100000 in
set_option maxHeartbeats 32000000 in
theorem true_ok (A C B : Option Addr) (c cc cb : Nat) (m : List (Int × Int)) (ws ys : List Int) (w : World) (hT : TabOk w) (hm : Pairs w w.heap.size A m) (hml : m.length ≤ 9223372036854775807) (hok : MOk m) (hg : greatB m.length 0 10 = false) (hw12 : ws.length ≤ 12) (hy0 : 0 < ys.length) (hyl : ys.length ≤ 9223372036854775807)
    (hc : BytesW w w.heap.size C ws) (hcb : ∀ y ∈ ws, 0 ≤ y ∧ y ≤ 255) (hy : BytesW w w.heap.size B ys) (hyb : ∀ y ∈ ys, 0 ≤ y ∧ y ≤ 255) :
    Calls Tryd.prog 7 #[.slice A m.length c, .slice C ws.length cc, .slice B ys.length cb] w fun e w' => e = .returned (.bool true) ∧ Below w.heap.size w w' := by
  have HA : Hid (∀ W, Below w.heap.size w W → Calls Tryd.prog 12 #[] W fun e w' => e = .returned (.bool true) ∧ Below W.heap.size W w') := Lib.hid fun W h => alive12 W (hT.below h)
  have HG : Hid (∀ W, Calls Tryd.prog 11 #[.slice A m.length c, .slice none 0 0, I 10] W fun e w' => e = .returned (.bool false) ∧ W = w') := Lib.hid fun W => by
    have := great11 A none m.length c 0 0 10 W
    rwa [hg] at this
  have HMA : Hid (∀ W, Below w.heap.size w W → Calls Tryd.prog 19 #[.slice A m.length c] W fun e w' => e = .returned (.bool true) ∧ Below W.heap.size W w') := Lib.hid fun W h => (mains19 A c m W ((hm.below h).more h.size) hml).mono fun e w' ⟨h, h'⟩ => ⟨by rw [h, mOkB_iff.2 hok], h'⟩
  have HFW : Hid (∀ W, Below w.heap.size w W → Calls Tryd.prog 27 #[.slice A m.length c, .slice B ys.length cb] W fun e w' => ∃ S xl, e = .returned (.slice (some ⟨S, 0, none⟩) m.length m.length) ∧ W.heap.size ≤ S ∧ Box w' S (xl.map I) ∧ xl.length = m.length ∧ FlowTo m 0 (xF xl) ∧ Below W.heap.size W w') := Lib.hid fun W h => flow27 A B c cb m ys W hok ((hm.below h).more h.size) ((hy.below h).more h.size) hy0 hyl hyb
  have HF : Hid (∀ ls W B' c', InOk m ls → (∃ x, Feas m ls x) → Below w.heap.size w W → Threes W W.heap.size B' ls → Calls Tryd.prog 18 #[.slice A m.length c, .slice B' ls.length c'] W fun e w' => ∃ A' c'' sl, e = .returned (.tuple #[.slice A' m.length c'', I 0]) ∧ Pairs w' w'.heap.size A' sl ∧ sl.length = m.length ∧ IsSpans m ls (sF sl) ∧ Below W.heap.size W w') := Lib.hid fun ls W B' c' h1 h2 h hB' => by
    refine (flows18 A B' c c' m ls W ((hm.below h).more h.size) hml hB' (by have := h1.2.1; omega)).mono ?_
    rintro e w' ⟨hB, ⟨h, _⟩ | ⟨_, h, _⟩ | ⟨_, v, sl, rfl, ho, hsl, hsp⟩⟩
    · exact absurd h1 h
    · exact absurd h2 h
    · obtain ⟨A', c'', rfl, hp⟩ := pairs_ownN ho hsl
      exact ⟨A', c'', sl, by rw [hsl], hp, hsl, hsp, hB⟩
  have HO : Hid (∀ ls sl W B' c', InOk m ls → IsSpans m ls (sF sl) → Below w.heap.size w W → Threes W W.heap.size B' ls → Calls Tryd.prog 23 #[.slice A m.length c, .slice B' ls.length c'] W fun e w' => ∃ A1 c1 A2 c2, e = .returned (.tuple #[.slice A1 (surelyL m (sF sl)).length c1, .slice A2 (perhapsL m (sF sl)).length c2, I 0]) ∧ Ints w' w'.heap.size A1 (surelyL m (sF sl)) ∧ Ints w' w'.heap.size A2 (perhapsL m (sF sl)) ∧ Below W.heap.size W w') := Lib.hid fun ls sl W B' c' h1 h2 h hB' => by
    refine (over23 A B' c c' m ls W ((hm.below h).more h.size) hml hB' (by have := h1.2.1; omega)).mono ?_
    rintro e w' ⟨hB, ⟨h, _⟩ | ⟨_, h, _⟩ | ⟨_, v1, v2, dd, rfl, o1, o2, _, hsp⟩⟩
    · exact absurd h1 h
    · exact absurd h2.some h
    · obtain ⟨e1, e2⟩ := surelyL_congr (m := m) (d := dd) (d' := sF sl) fun i hi => hsp.eq h2 hi
      rw [e1] at o1
      rw [e2] at o2
      obtain ⟨A1, c1, rfl, i1⟩ := ints_ownN o1 rfl
      obtain ⟨A2, c2, rfl, i2⟩ := ints_ownN o2 rfl
      exact ⟨A1, c1, A2, c2, rfl, i1, i2, hB⟩
  have HX : Hid (∀ ls W B' c', InOk m ls → (∃ x, Feas m ls x) → Below w.heap.size w W → Threes W W.heap.size B' ls → Calls Tryd.prog 15 #[.slice A m.length c, .slice B' ls.length c'] W fun e w' => ∃ v, IsExcess m ls v ∧ e = .returned (.tuple #[I v, I 0]) ∧ Below W.heap.size W w') := Lib.hid fun ls W B' c' h1 h2 h hB' => by
    refine (excess15 A B' c c' m ls W ((hm.below h).more h.size) hml hB' (by have := h1.2.1; omega)).mono ?_
    rintro e w' ⟨hB, ⟨h, _⟩ | ⟨_, h, _⟩ | ⟨_, v, hv, rfl⟩⟩
    · exact absurd h1 h
    · exact absurd h2 h
    · exact ⟨v, hv, rfl, hB⟩
  have HW29 : Hid (∀ (i : Nat) W, Below w.heap.size w W → Calls Tryd.prog 29 #[.slice A m.length c, I i] W fun e w' => e = .returned (.bool (decide (kids m i = []))) ∧ Below W.heap.size W w') := Lib.hid fun i W h => well29 A c i m W ((hm.below h).more h.size) hml
  have HM := Lib.hid hm
  have HC := Lib.hid hc
  have HCB := Lib.hid hcb
  have HY := Lib.hid hy
  have HYB := Lib.hid hyb
  have HOK := Lib.hid hok
  have hn1 := hok.pos
  have hn16 := hok.le
  clear hT hm hg hc hcb hy hyb hok
  obtain ⟨i0, hi0, hi1, hi2, hi3⟩ := info_parts info42
  have hu : Tryd.prog.underlying 23 = some (.slice 42) := Tryd.underlying23
  have HU := Lib.hid hu; have HI0 := Lib.hid hi0; have HI1 := Lib.hid hi1; have HI2 := Lib.hid hi2; have HI3 := Lib.hid hi3
  clear hu hi0 hi1 hi2 hi3
  have g0 : ((ys.length : Int) == 0) = false := beq_eq_false_iff_ne.2 (by omega)
  have g0' : (ys.length == 0) = false := beq_eq_false_iff_ne.2 (by omega)
  have g1 : decide ((12 : Int) < (ws.length : Int)) = false := decide_eq_false (by omega)
  have g1' : decide (12 < ws.length) = false := decide_eq_false (by omega)
  go_enter Tryd.func7, Tryd.ntmps7
  go_wp2_with (first
    | (go_at_call 11; refine (HG.out _).mono ?_; rintro e w0 ⟨rfl, rfl⟩)
    | (go_at_call 19; refine (HMA.out _ (Below.refl _ _)).mono ?_; rintro e w1 ⟨rfl, hB1⟩)
    | (go_at_call 27; refine (HFW.out _ hB1).mono ?_; rintro e w2 ⟨S, xl, rfl, hS1, hbx, hxl, hfl, hB2⟩; have HXB := Lib.hid hbx; have HFL := Lib.hid hfl; have hBw := hB1.trans (hB2.mono hB1.size); clear hbx hfl)
    | fail)
  clear g0 g0' g1 g1'
  go_loopw [8, 47] (fun s8 s47 wr => ∃ (ls : List (Int × Int × Int)), ls.length ≤ ws.length ∧ s47 = I (ls.length : Nat) ∧ Hid (wr.ownsRow w2.heap.size 42 3 s8 ls.length (flat3 ls)) ∧ Hid (∀ r ∈ ls, GoodR m.length (xF xl) r) ∧ Below w2.heap.size w2 wr) (fun _ s _ => ws.length - (intOf s).toNat)
  case atStart => exact ⟨[], Nat.zero_le _, rfl, Lib.hid (World.ownsRow_nil _ _ _ _), Lib.hid (fun r h => (by cases h)), Below.refl _ _⟩
  case round =>
    obtain ⟨ls, hk, rfl, HO8, HGD, hB⟩ := hrel
    obtain ⟨k, hlk⟩ : ∃ k, ls.length = k := ⟨_, rfl⟩
    rw [hlk] at HO8 hk ⊢
    have HLK := Lib.hid hlk
    clear hlk
    have hzB := hB.size
    have hBwr := hBw.trans (hB.mono hBw.size)
    by_cases hlt : k < ws.length
    · obtain ⟨wb, wo, hwe, hwz, hwc⟩ := HC.out.below hBwr (by omega)
      obtain ⟨yb, yo, hye, hyz, hyc⟩ := HY.out.below hBwr hy0
      subst hwe hye
      have hwk := hwc k hlt
      have hwr := HCB.out ws[k] (List.getElem_mem hlt)
      generalize ws[k] = wv at *
      have hmi : (0 : Int) < (m.length : Int) := by omega
      have hyi : (0 : Int) < (ys.length : Int) := by omega
      obtain ⟨i, hi⟩ : ∃ i : Nat, wv % (m.length : Int) = (i : Int) := ⟨(wv % (m.length : Int)).toNat, by have := Int.emod_nonneg wv (show (m.length : Int) ≠ 0 by omega); omega⟩
      have him : i < m.length := by have := Int.emod_lt_of_pos wv hmi; omega
      obtain ⟨j, hj⟩ : ∃ j : Nat, ((k : Int) + 1) % (ys.length : Int) = (j : Int) := ⟨(((k : Int) + 1) % (ys.length : Int)).toNat, by have := Int.emod_nonneg ((k : Int) + 1) (show (ys.length : Int) ≠ 0 by omega); omega⟩
      have hjl : j < ys.length := by have := Int.emod_lt_of_pos ((k : Int) + 1) hyi; omega
      have hyj := hyc j hjl
      have her := HYB.out ys[j] (List.getElem_mem hjl)
      generalize ys[j] = ev at *
      obtain ⟨xi, hxi⟩ : ∃ xi, xi = xF xl i := ⟨_, rfl⟩
      have hx0 := HFL.out.nonneg HOK.out m.length i him (by omega)
      have hx1 := HFL.out.le_root HOK.out i him
      have hx2 := HFL.out.root HOK.out
      have hxr : 0 ≤ xi ∧ xi ≤ 1600 := by omega
      have HXI := Lib.hid hxi
      have HCE : Hid (∀ W, Below wr.heap.size wr W → W.cell? ⟨S, i, none⟩ = some (I xi)) := Lib.hid fun W hW => by
        have hb2 : Below w2.heap.size w2 W := hB.trans (hW.mono hzB)
        have := ((HXB.out.call hb2).at_ i (I (xF xl i)) (by simp [xF, List.getD, show i < xl.length by omega])).1
        rw [this, HXI.out]
      have g2 : IntKind.i64.wrap (xi - ev % 7) = xi - ev % 7 := IntWalk.i64_in _ (by omega)
      have g3 : IntKind.i64.wrap (xi + ev / 7 % 5) = xi + ev / 7 % 5 := IntWalk.i64_in _ (by omega)
      have g4 : IntKind.i64.wrap ((k : Int) + 1) = (k : Int) + 1 := IntWalk.i64_in _ (by omega)
      have g5 : IntKind.i64.wrap wv = wv := IntWalk.i64_in _ (by omega)
      have g6 : IntKind.i64.wrap ev = ev := IntWalk.i64_in _ (by omega)
      have p0 : (0 : Int) ≤ (k : Int) := by omega
      have p1 : (k : Int) < (ws.length : Int) := by omega
      have p2 : (0 : Int) ≤ (i : Int) := by omega
      have p3 : (i : Int) < (m.length : Int) := by omega
      have p4 : (0 : Int) ≤ (j : Int) := by omega
      have p5 : (j : Int) < (ys.length : Int) := by omega
      clear hwc hyc hxi hx0 hx1 hx2
      go_wp2_with (fail)
      refine (wpIn_wide (n := 9)).1 ?_
      refine wpIn_region_plan (Plan.ons [0, 1, 2, 3, 4, 5, 6, 7, 8, 9, 10, 11, 12, 13, 14, 15, 16, 17, 18, 19, 20, 21, 22, 23] .fin) [0, 1] (fun W' => Below wr.heap.size wr W') [22] rfl (by kernel_rfl) (by kernel_rfl) (fun _ d _ _ _ h => by cases d <;> exact h) (Below.refl _ _).drew ?_
      (refine ordQ_held (u8) rfl rfl rfl rfl (fun W' hC' => ?_) (fun K hK => ?_); (focus (obtain _ := HCE.out _ hC'; go_simp; try exact ⟨rfl, rfl⟩)); go_simp; refine hK _ ?_; clear hK K)
      (refine ordQ_held (I i) rfl rfl rfl rfl (fun W' hC' => ?_) (fun K hK => ?_); (focus (obtain _ := HCE.out _ hC'; go_simp; try exact ⟨rfl, rfl⟩)); go_simp; refine hK _ ?_; clear hK K)
      have xc := HCE.out wr (Below.refl _ _)
      iterate 17 (refine ordQ_li rfl rfl rfl (fun K hK => ?_); go_simp; refine hK _ ?_; clear hK K)
      refine ordQ_hv rfl rfl rfl (fun K hK => ?_)
      gi_wp2_with (refine And.intro trivial ?_; gi_at_call 21; refine callsIn_wide.2 ((span21 _ _ _).mono ?_); rintro e wa ⟨rfl, rfl⟩)
      have hb4 : Below wr.heap.size wr (wr.alloc (.cells #[I (max 0 (xi - ev % 7)), I (min 1600 (xi + ev / 7 % 5))] 39)).drew := by (repeat' (first | assumption | exact Below.refl _ _ | refine Below.drew ?_ | refine below_drewN ?_ _ | refine Below.setCell ?_ (by first | omega | (simp; done) | (simp; omega)) _ | refine Below.alloc ?_ (by first | omega | (simp; done) | (simp; omega)) _ | refine Below.trans ?_ (Below.mono (by assumption) (by first | omega | (simp; done) | (simp; omega)))))
      refine hK _ _ (fun _ => hb4) ?_
      clear hK K
      have HOa := Lib.hid (grown_own HO8.out hb4)
      generalize (wr.alloc (.cells #[I (max 0 (xi - ev % 7)), I (min 1600 (xi + ev / 7 % 5))] 39)).drew = wa at *
      have hza := hb4.size
      (refine ordQ_li rfl rfl rfl (fun K hK => ?_); go_simp; refine hK _ ?_; clear hK K)
      refine ordQ_hv rfl rfl rfl (fun K hK => ?_)
      gi_wp2
      have hb5 : Below wr.heap.size wr (wa.alloc (.cells #[I i, I (max 0 (xi - ev % 7)), I (min 1600 (xi + ev / 7 % 5))] 42)) := hb4.alloc hza _
      refine hK _ _ (fun _ => hb5) ?_
      clear hK K
      have HOb := Lib.hid (HOa.out.alloc (.cells #[I i, I (max 0 (xi - ev % 7)), I (min 1600 (xi + ev / 7 % 5))] 42))
      have HCb := Lib.hid (cells3 wa (I i) (I (max 0 (xi - ev % 7))) (I (min 1600 (xi + ev / 7 % 5))) 42)
      have hBb : Below w2.heap.size w2 (wa.alloc (.cells #[I i, I (max 0 (xi - ev % 7)), I (min 1600 (xi + ev / 7 % 5))] 42)) := hB.trans (hb5.mono hzB)
      have hzb : w2.heap.size ≤ (wa.alloc (.cells #[I i, I (max 0 (xi - ev % 7)), I (min 1600 (xi + ev / 7 % 5))] 42)).heap.size := hBb.size
      refine ordQ_hv rfl rfl rfl (fun K hK => ?_)
      refine opIn_append_own rfl (wa.alloc (.cells #[I i, I (max 0 (xi - ev % 7)), I (min 1600 (xi + ev / 7 % 5))] 42)) _ _ 23 rfl w2.heap.size 42 i0 (.agg #[I 0, I 0, I 0]) 3 24 HU.out HI0.out HI1.out HI2.out HI3.out rfl (by decide) u8 k (flat3 ls) rfl HOb.out ⟨wa.heap.size, 0, none⟩ 1 1 [I i, I (max 0 (xi - ev % 7)), I (min 1600 (xi + ev / 7 % 5))] rfl rfl HCb.out (by simp [Value.oneCell']) (by unfold maxLen; omega) (by omega) hzb ?_
      intro v' w' hown hgrow _
      refine hK _ _ (fun h => by cases h) ?_
      clear hK K
      have hB9 : Below w2.heap.size w2 w' := hBb.grown hgrow hzb (fun g e => (HOb.out.lt g e).1)
      have HO9 : Hid (w'.ownsRow w2.heap.size 42 3 v' (k + 1) (flat3 (ls ++ [((i : Int), max 0 (xi - ev % 7), min 1600 (xi + ev / 7 % 5))]))) := Lib.hid (by rw [flat3_snoc]; exact hown)
      have HG9 : Hid (∀ r ∈ ls ++ [((i : Int), max 0 (xi - ev % 7), min 1600 (xi + ev / 7 % 5))], GoodR m.length (xF xl) r) := Lib.hid (good_snoc HGD.out ⟨i, him, rfl, by simp only; rw [← HXI.out]; omega, by simp only; rw [← HXI.out]; omega, by simp only; omega⟩)
      clear hown hgrow
      (refine ordQ_li rfl rfl rfl (fun K hK => ?_); go_simp; refine hK _ ?_; clear hK K)
      refine ordQ_fin ?_
      go_wp2
      go_roundw
      case rel => exact ⟨ls ++ [((i : Int), max 0 (xi - ev % 7), min 1600 (xi + ev / 7 % 5))], by simp [HLK.out]; omega, by simp [HLK.out], by simpa [HLK.out] using HO9, HG9, hB9⟩
      case measure => first | (simp [intOf]; done) | (simp [intOf]; omega)
    · obtain rfl : ws.length = k := by omega
      have hl12 : ls.length ≤ 12 := by rw [HLK.out]; omega
      have HIN : Hid (InOk m ls) := Lib.hid ⟨HOK.out, good_rds HGD.out hl12⟩
      have HFE : Hid (Feas m ls (xF xl)) := Lib.hid (good_feas HOK.out HFL.out HGD.out)
      have hown := HO8.out
      rw [← HLK.out] at hown
      obtain ⟨A8, c8, hv8, ht8⟩ := threes_own rfl hown
      subst hv8
      have HTH := Lib.hid ht8
      have HXB8 := Lib.hid (HXB.out.call hB)
      clear hown ht8 HO8 HGD HC HCB HY HYB HU HI0 HI1 HI2 HI3 hB hBw HLK
      generalize wr = w8 at *
      go_wp2_with (first
        | (go_at_call 18; refine (HF.out _ _ _ _ HIN.out ⟨_, HFE.out⟩ hBwr HTH.out).mono ?_; rintro e u1 ⟨As, cs, sl, rfl, hps, hsl, hsp, hC1⟩; have HPS := Lib.hid hps; have HSP := Lib.hid hsp; have hD1 := hBwr.trans (hC1.mono hBwr.size); have HT1 := Lib.hid ((HTH.out.below hC1).more hC1.size); have HX1 := Lib.hid (HXB8.out.call hC1); clear hps hsp HTH HXB8)
        | (go_at_call 23; refine (HO.out _ _ _ _ _ HIN.out HSP.out hD1 HT1.out).mono ?_; rintro e u2 ⟨Au, cu, Ap, cp, rfl, hiu, hip, hC2⟩; have HIU := Lib.hid hiu; have HIP := Lib.hid hip; have hD2 := hD1.trans (hC2.mono hD1.size); have HT2 := Lib.hid ((HT1.out.below hC2).more hC2.size); have HX2 := Lib.hid (HX1.out.call hC2); have HPS2 := Lib.hid ((HPS.out.below hC2).more hC2.size); clear hiu hip HT1 HX1 HPS)
        | (go_at_call 15; refine (HX.out _ _ _ _ HIN.out ⟨_, HFE.out⟩ hD2 HT2.out).mono ?_; rintro e u3 ⟨n0, hn0, rfl, hC3⟩; have HN0 := Lib.hid hn0; have hD3 := hD2.trans (hC3.mono hD2.size); have HX3 := Lib.hid (HX2.out.call hC3); have HPS3 := Lib.hid ((HPS2.out.below hC3).more hC3.size); have HIU3 := Lib.hid ((HIU.out.below hC3).more hC3.size); have HIP3 := Lib.hid ((HIP.out.below hC3).more hC3.size); clear hn0 HX2 HPS2 HIU HIP HT2)
        | fail)
      have hsu := (surelyL_le m (sF sl)).1
      have hpe := (surelyL_le m (sF sl)).2
      have HW0 : Hid ((0 : Int) = sumL (wellOver m (xF xl)) (List.range 0)) := Lib.hid rfl
      go_loopw [20, 128] (fun s20 s128 wr => ∃ (k : Nat) (mu : Int), k ≤ m.length ∧ s128 = I k ∧ s20 = I mu ∧ (0 ≤ mu ∧ mu ≤ 1600 * k) ∧ Hid (mu = sumL (wellOver m (xF xl)) (List.range k)) ∧ Below u3.heap.size u3 wr) (fun _ s _ => m.length - (intOf s).toNat)
      case atStart => exact ⟨0, 0, Nat.zero_le _, rfl, rfl, by omega, HW0, Below.refl _ _⟩
      case round =>
        clear HW0
        obtain ⟨k, mu, hk, rfl, rfl, hmu, HMU, hB⟩ := hrel
        have hzB := hB.size
        have hDr := hD3.trans (hB.mono hD3.size)
        by_cases hlt : k < m.length
        · obtain ⟨ab, ao, hae, haz, hac⟩ := HM.out.below hDr (by omega)
          obtain ⟨sb, so, hse, hsz, hsc⟩ := (HPS3.out.below hB) (by omega)
          subst hae hse
          have a1 := (hac k hlt).2
          obtain ⟨s1, s2⟩ := hsc k (by omega)
          have hme : m[k].2 = limW m k := by simp [limW, List.getD, hlt]
          have hss : sl[k]'(by omega) = sF sl k := by simp [sF, List.getD, show k < sl.length by omega]
          rw [hme] at a1
          rw [hss] at s1 s2
          have x1 := ((HX3.out.call hB).at_ k (I (xF xl k)) (by simp [xF, List.getD, show k < xl.length by omega])).1
          have hSz := HX3.out.1
          have hso := HSP.out.sound _ HFE.out k hlt
          have hxb := ((feas_iff.1 HFE.out) k hlt).1.1
          have hlm := HOK.out.lim k hlt
          have hmp : ((k : Int) ∈ perhapsL m (sF sl)) ↔ limW m k < (sF sl k).2 := mem_perhaps hlt
          have hms : ((k : Int) ∈ surelyL m (sF sl)) ↔ limW m k < (sF sl k).1 := mem_surelyT hlt
          have HP28 : Hid (∀ W, Below wr.heap.size wr W → Calls Tryd.prog 28 #[.slice Ap (perhapsL m (sF sl)).length cp, I k] W fun e w' => e = .returned (.bool (decide (limW m k < (sF sl k).2))) ∧ W = w') := Lib.hid fun W hW => by
            have h1 := has28 Ap cp (perhapsL m (sF sl)) k W (((HIP3.out.below hB).more hzB).below hW |>.more hW.size) (by omega)
            simpa only [hmp] using h1
          have HU28 : Hid (∀ W, Below wr.heap.size wr W → Calls Tryd.prog 28 #[.slice Au (surelyL m (sF sl)).length cu, I k] W fun e w' => e = .returned (.bool (decide (limW m k < (sF sl k).1))) ∧ W = w') := Lib.hid fun W hW => by
            have h1 := has28 Au cu (surelyL m (sF sl)) k W (((HIU3.out.below hB).more hzB).below hW |>.more hW.size) (by omega)
            simpa only [hms] using h1
          have HSTEP : Hid (sumL (wellOver m (xF xl)) (List.range (k + 1)) = mu + wellOver m (xF xl) k) := Lib.hid (by rw [List.range_succ, sumL_append, ← HMU.out]; simp [sumL])
          have HWO : Hid (wellOver m (xF xl) k = if kids m k = [] then max 0 (xF xl k - limW m k) else 0) := Lib.hid rfl
          have p0 : (0 : Int) ≤ (k : Int) := by omega
          have p1 : (k : Int) < (m.length : Int) := by omega
          generalize wellOver m (xF xl) k = wo at *
          generalize xF xl k = xk at *
          generalize limW m k = lm at *
          obtain ⟨lo, hlo⟩ : ∃ a : Int, a = (sF sl k).1 := ⟨_, rfl⟩
          obtain ⟨hi, hhi⟩ : ∃ a : Int, a = (sF sl k).2 := ⟨_, rfl⟩
          rw [← hlo] at s1 hso HU28
          rw [← hhi] at s2 hso HP28
          have HCE : Hid (∀ W, Below wr.heap.size wr W → W.cell? ⟨S, k, none⟩ = some (I xk) ∧ W.cell? ⟨ab, ao + k * 2 + 1, none⟩ = some (I lm) ∧ W.cell? ⟨sb, so + k * 2, none⟩ = some (I lo) ∧ W.cell? ⟨sb, so + k * 2 + 1, none⟩ = some (I hi)) := Lib.hid fun W hW =>
            ⟨(hW.cell (p := ⟨S, k, none⟩) (show S < _ by omega)).trans x1, (hW.cell (p := ⟨ab, ao + k * 2 + 1, none⟩) (show ab < _ by have := hDr.size; omega)).trans a1, (hW.cell (p := ⟨sb, so + k * 2, none⟩) (show sb < _ by omega)).trans s1, (hW.cell (p := ⟨sb, so + k * 2 + 1, none⟩) (show sb < _ by omega)).trans s2⟩
          have d0 : decide (xk < lo) = false := decide_eq_false (by omega)
          have d1 : decide (hi < xk) = false := decide_eq_false (by omega)
          have gs : IntKind.i64.wrap (xk - lm) = xk - lm := IntWalk.i64_in _ (by omega)
          have gm : IntKind.i64.wrap (mu + max 0 (xk - lm)) = mu + max 0 (xk - lm) := IntWalk.i64_in _ (by omega)
          clear hac hsc hme hss hmp hms hlo hhi hsu hpe HIU3 HIP3
          generalize perhapsL m (sF sl) = xp at *
          generalize surelyL m (sF sl) = xsu at *
          obtain ⟨ov, hov⟩ : ∃ b, decide (lm < xk) = b := ⟨_, rfl⟩
          obtain ⟨bp, hbp⟩ : ∃ b, decide (lm < hi) = b := ⟨_, rfl⟩
          obtain ⟨bs, hbs⟩ : ∃ b, decide (lm < lo) = b := ⟨_, rfl⟩
          rw [hbp] at HP28
          rw [hbs] at HU28
          have hc1 : ov = true → bp = true := fun h => by rw [← hov] at h; rw [← hbp]; exact decide_eq_true (by have := of_decide_eq_true h; omega)
          have hc2 : bs = true → ov = true := fun h => by rw [← hbs] at h; rw [← hov]; exact decide_eq_true (by have := of_decide_eq_true h; omega)
          have HBND : Hid (0 ≤ wo ∧ wo ≤ 1600) := Lib.hid (by rw [HWO.out]; split <;> omega)
          clear hso hxb hlm
          try clear HG; try clear HMA; try clear HFW; try clear HF; try clear HO; try clear HX; try clear HM; try clear HPS3; try clear HOK; try clear HXB; try clear HFL; try clear HIN; try clear HFE; try clear HSP; try clear HN0; try clear HX3; try clear HMU; try clear HA; try clear hC1; try clear hC2; try clear hC3; try clear hD1; try clear hD2; try clear hB1; try clear hB2; try clear hBwr; try clear hmu_
          cases ov <;> cases bp <;> cases bs <;> (first | exact absurd (hc1 rfl) (by decide) | exact absurd (hc2 rfl) (by decide) | skip)
          all_goals (clear hc1 hc2)
          · go_wp2_with (fail)
            go_quiet (fail)
            have hp0 : Below wr.heap.size wr (wr.drewN nq) := below_drewN (Below.refl _ _) _
            generalize wr.drewN nq = wp at *
            obtain ⟨x1, a1, s1, s2⟩ := HCE.out _ hp0
            go_wp2
            go_quiet (fail)
            have hq0 : Below wr.heap.size wr (wp.drewN nq) := below_drewN hp0 _
            generalize wp.drewN nq = wq at *
            clear x1 a1 s1 s2
            go_wp2_with (fail)
            refine (wpIn_wide (n := 9)).1 ?_
            refine wpIn_region_valsB [some 163, some 164, some 165, some 166, some 167, some 168, some 169, some 170, some 171, some 172, some 173, some 174, some 175, some 176, some 177, some 178, some 179, some 180, some 181, some 182, some 183, some 184, some 185, some 186, some 187, some 188, some 189, some 190, some 191, some 192, some 193, some 194, some 195, some 196, some 197, some 198, some 199, some 200, some 201, some 202, some 203, some 204, some 205, some 206, some 207, some 208, some 209, some 210, some 211, some 212, some 213, some 214, some 215, some 216]
              (nthV [.bool false, .bool false, undef, undef, undef, undef, undef, .bool false, .bool false, .func (.func 28) #[] #[], .slice Au xsu.length cu, I k, .bool false, .bool false, undef, undef, .bool false, .bool false, .bool false, .func (.func 28) #[] #[], .slice Au xsu.length cu, I k, .bool false, .slice (some ⟨sb, so, none⟩) m.length cs, I k, .pointer (some ⟨sb, so + k * 2, none⟩), .pointer (some ⟨sb, so + k * 2, none⟩), I lo, .slice (some ⟨ab, ao, none⟩) m.length c, I k, .pointer (some ⟨ab, ao + k * 2, none⟩), .pointer (some ⟨ab, ao + k * 2 + 1, none⟩), I lm, .bool false, .bool false, .bool false, .bool false, .func (.func 28) #[] #[], .slice Ap xp.length cp, I k, .bool false, .slice (some ⟨sb, so, none⟩) m.length cs, I k, .pointer (some ⟨sb, so + k * 2, none⟩), .pointer (some ⟨sb, so + k * 2 + 1, none⟩), I hi, .slice (some ⟨ab, ao, none⟩) m.length c, I k, .pointer (some ⟨ab, ao + k * 2, none⟩), .pointer (some ⟨ab, ao + k * 2 + 1, none⟩), I lm, .bool false, .bool false, .bool false])
              [(0, .slice (some ⟨ab, ao, none⟩) m.length c), (13, .slice (some ⟨sb, so, none⟩) m.length cs), (15, .slice Au xsu.length cu), (16, .slice Ap xp.length cp), (21, .func (.func 28) #[] #[]), (22, I k), (23, .bool false)]
              (fun W => Below wr.heap.size wr W) rfl (by kernel_rfl) (fun _ => trivial) (by kernel_rfl) (by kernel_rfl) (by kernel_rfl) ⟨rfl, rfl, rfl, rfl, rfl, rfl, rfl, trivial⟩ (fun _ d _ _ _ h => by cases d <;> exact h) hq0.drew ?_ ?_
            · refine ⟨?_, ?_, ?_, ?_, ?_, ?_, ?_, ?_, ?_, ?_, ?_, ?_, ?_, ?_, ?_, ?_, ?_, ?_, ?_, ?_, ?_, ?_, ?_, ?_, ?_, ?_, ?_, ?_, ?_, ?_, ?_, ?_, ?_, ?_, ?_, ?_, ?_, ?_, ?_, ?_, ?_, ?_, ?_, ?_, ?_, ?_, ?_, ?_, ?_, ?_, ?_, ?_, ?_, ?_, trivial⟩
              all_goals (intro x W hC; obtain ⟨n0, n1, n2, n3⟩ := HCE.out _ hC)
              all_goals first
                | (refine e_no rfl ?_; rfl)
                | (refine e_yes rfl ?_; intro b e hb K hK)
              all_goals first
                | (refine opE_li rfl hb ?_; simp only [execOp, Oper.about, envB, lookB, lookV, nthV, List.map_toArray, List.map_cons, List.map_nil, Nat.reduceEqDiff, reduceIte, Nat.succ_ne_zero, Nat.zero_ne_one, Nat.one_ne_zero, Nat.reduceAdd, Nat.zero_add]; go_simp; exact hK _ hC)
                | (refine opE_call rfl hb (fun _ => trivial) (fun h => (by cases h)) 28 #[.slice Ap xp.length cp, I k] ?_ ?_
                   · (simp only [execOp, resolve, Oper.about, envB, lookB, lookV, nthV, List.map_toArray, List.map_cons, List.map_nil, Nat.reduceEqDiff, reduceIte, Nat.succ_ne_zero, Nat.zero_ne_one, Nat.one_ne_zero, Nat.reduceAdd, Nat.zero_add])
                     go_simp
                   · refine callsIn_wide.2 ((HP28.out _ hC).mono ?_)
                     rintro e w6 ⟨rfl, rfl⟩
                     exact ⟨_, rfl, hK _ hC⟩)
                | (refine opE_call rfl hb (fun _ => trivial) (fun h => (by cases h)) 28 #[.slice Au xsu.length cu, I k] ?_ ?_
                   · (simp only [execOp, resolve, Oper.about, envB, lookB, lookV, nthV, List.map_toArray, List.map_cons, List.map_nil, Nat.reduceEqDiff, reduceIte, Nat.succ_ne_zero, Nat.zero_ne_one, Nat.one_ne_zero, Nat.reduceAdd, Nat.zero_add])
                     go_simp
                   · refine callsIn_wide.2 ((HU28.out _ hC).mono ?_)
                     rintro e w6 ⟨rfl, rfl⟩
                     exact ⟨_, rfl, hK _ hC⟩)
            · (intro W hC; have HC := Lib.hid hC; clear hC; simp only [putD, nthV, Act.put, List.setIfInBounds_toArray, List.set_cons_succ, List.set_cons_zero, Nat.zero_add, Nat.reduceAdd])
              have hC0 := HC.out
              have hDq := hDr.trans (hC0.mono hDr.size)
              clear HC
              by_cases hk0 : kids m k = []
              · have hkb : decide (kids m k = []) = true := decide_eq_true hk0
                have HK0 := Lib.hid hk0
                clear hk0
                go_wp2_with (first
                  | (go_at_call 29; refine (HW29.out k _ hDq).mono ?_; rw [hkb]; rintro e w9 ⟨rfl, hB9⟩; have hC9 := hC0.trans (hB9.mono hC0.size))
                  | fail)
                obtain ⟨n0, n1, n2, n3⟩ := HCE.out _ hC9
                refine (wpIn_wide (n := 9)).1 ?_
                refine wpIn_region_plan (Plan.ons [0, 1, 2, 3, 4, 5, 6, 7, 8, 9, 10, 11, 12, 13] .fin) [] (fun _ => True) [] rfl (by kernel_rfl) (by kernel_rfl) (fun _ d _ _ _ h => by cases d <;> exact h) trivial ?_
                iterate 14 (refine ordQ_li rfl rfl rfl (fun K hK => ?_); go_simp; refine hK _ ?_; clear hK K)
                refine ordQ_fin ?_
                have hRL : Below u3.heap.size u3 w9.drew := (hB.trans (hC9.mono hzB)).drew
                have HM9 : Hid (mu + wo = sumL (wellOver m (xF xl)) (List.range (k + 1))) := Lib.hid HSTEP.out.symm
                have hbw := HBND.out
                go_wp2
                go_roundw
                case rel => first | exact ⟨k + 1, mu + wo, by omega, by go_num, by rw [HWO.out, if_pos HK0.out], by omega, HM9, hRL⟩ | ((repeat apply Exists.intro); refine ⟨?_, rfl⟩; exact ⟨k + 1, mu + wo, by omega, by go_num, by rw [HWO.out, if_pos HK0.out], by omega, HM9, hRL⟩)
                case measure => first | (simp [intOf]; done) | (simp [intOf]; omega)
              · have hkb : decide (kids m k = []) = false := decide_eq_false hk0
                have HK0 := Lib.hid hk0
                clear hk0
                go_wp2_with (first
                  | (go_at_call 29; refine (HW29.out k _ hDq).mono ?_; rw [hkb]; rintro e w9 ⟨rfl, hB9⟩; have hC9 := hC0.trans (hB9.mono hC0.size))
                  | fail)
                have hRL : Below u3.heap.size u3 w9 := hB.trans (hC9.mono hzB)
                have HM9 : Hid (mu + wo = sumL (wellOver m (xF xl)) (List.range (k + 1))) := Lib.hid HSTEP.out.symm
                have hbw := HBND.out
                go_roundw
                case rel => first | exact ⟨k + 1, mu + wo, by omega, by go_num, by rw [HWO.out, if_neg HK0.out, Int.add_zero], by omega, HM9, hRL⟩ | ((repeat apply Exists.intro); refine ⟨?_, rfl⟩; exact ⟨k + 1, mu + wo, by omega, by go_num, by rw [HWO.out, if_neg HK0.out, Int.add_zero], by omega, HM9, hRL⟩)
                case measure => first | (simp [intOf]; done) | (simp [intOf]; omega)
          · go_wp2_with (fail)
            go_quiet (fail)
            have hp0 : Below wr.heap.size wr (wr.drewN nq) := below_drewN (Below.refl _ _) _
            generalize wr.drewN nq = wp at *
            obtain ⟨x1, a1, s1, s2⟩ := HCE.out _ hp0
            go_wp2
            go_quiet (fail)
            have hq0 : Below wr.heap.size wr (wp.drewN nq) := below_drewN hp0 _
            generalize wp.drewN nq = wq at *
            clear x1 a1 s1 s2
            go_wp2_with (fail)
            refine (wpIn_wide (n := 9)).1 ?_
            refine wpIn_region_valsB [some 163, some 164, some 165, some 166, some 167, some 168, some 169, some 170, some 171, some 172, some 173, some 174, some 175, some 176, some 177, some 178, some 179, some 180, some 181, some 182, some 183, some 184, some 185, some 186, some 187, some 188, some 189, some 190, some 191, some 192, some 193, some 194, some 195, some 196, some 197, some 198, some 199, some 200, some 201, some 202, some 203, some 204, some 205, some 206, some 207, some 208, some 209, some 210, some 211, some 212, some 213, some 214, some 215, some 216]
              (nthV [.bool false, .bool false, undef, undef, undef, undef, undef, .bool false, .bool false, .func (.func 28) #[] #[], .slice Au xsu.length cu, I k, .bool false, .bool false, undef, undef, .bool false, .bool false, .bool false, .func (.func 28) #[] #[], .slice Au xsu.length cu, I k, .bool false, .slice (some ⟨sb, so, none⟩) m.length cs, I k, .pointer (some ⟨sb, so + k * 2, none⟩), .pointer (some ⟨sb, so + k * 2, none⟩), I lo, .slice (some ⟨ab, ao, none⟩) m.length c, I k, .pointer (some ⟨ab, ao + k * 2, none⟩), .pointer (some ⟨ab, ao + k * 2 + 1, none⟩), I lm, .bool false, .bool false, .bool false, .bool false, .func (.func 28) #[] #[], .slice Ap xp.length cp, I k, .bool true, .slice (some ⟨sb, so, none⟩) m.length cs, I k, .pointer (some ⟨sb, so + k * 2, none⟩), .pointer (some ⟨sb, so + k * 2 + 1, none⟩), I hi, .slice (some ⟨ab, ao, none⟩) m.length c, I k, .pointer (some ⟨ab, ao + k * 2, none⟩), .pointer (some ⟨ab, ao + k * 2 + 1, none⟩), I lm, .bool true, .bool false, .bool false])
              [(0, .slice (some ⟨ab, ao, none⟩) m.length c), (13, .slice (some ⟨sb, so, none⟩) m.length cs), (15, .slice Au xsu.length cu), (16, .slice Ap xp.length cp), (21, .func (.func 28) #[] #[]), (22, I k), (23, .bool false)]
              (fun W => Below wr.heap.size wr W) rfl (by kernel_rfl) (fun _ => trivial) (by kernel_rfl) (by kernel_rfl) (by kernel_rfl) ⟨rfl, rfl, rfl, rfl, rfl, rfl, rfl, trivial⟩ (fun _ d _ _ _ h => by cases d <;> exact h) hq0.drew ?_ ?_
            · refine ⟨?_, ?_, ?_, ?_, ?_, ?_, ?_, ?_, ?_, ?_, ?_, ?_, ?_, ?_, ?_, ?_, ?_, ?_, ?_, ?_, ?_, ?_, ?_, ?_, ?_, ?_, ?_, ?_, ?_, ?_, ?_, ?_, ?_, ?_, ?_, ?_, ?_, ?_, ?_, ?_, ?_, ?_, ?_, ?_, ?_, ?_, ?_, ?_, ?_, ?_, ?_, ?_, ?_, ?_, trivial⟩
              all_goals (intro x W hC; obtain ⟨n0, n1, n2, n3⟩ := HCE.out _ hC)
              all_goals first
                | (refine e_no rfl ?_; rfl)
                | (refine e_yes rfl ?_; intro b e hb K hK)
              all_goals first
                | (refine opE_li rfl hb ?_; simp only [execOp, Oper.about, envB, lookB, lookV, nthV, List.map_toArray, List.map_cons, List.map_nil, Nat.reduceEqDiff, reduceIte, Nat.succ_ne_zero, Nat.zero_ne_one, Nat.one_ne_zero, Nat.reduceAdd, Nat.zero_add]; go_simp; exact hK _ hC)
                | (refine opE_call rfl hb (fun _ => trivial) (fun h => (by cases h)) 28 #[.slice Ap xp.length cp, I k] ?_ ?_
                   · (simp only [execOp, resolve, Oper.about, envB, lookB, lookV, nthV, List.map_toArray, List.map_cons, List.map_nil, Nat.reduceEqDiff, reduceIte, Nat.succ_ne_zero, Nat.zero_ne_one, Nat.one_ne_zero, Nat.reduceAdd, Nat.zero_add])
                     go_simp
                   · refine callsIn_wide.2 ((HP28.out _ hC).mono ?_)
                     rintro e w6 ⟨rfl, rfl⟩
                     exact ⟨_, rfl, hK _ hC⟩)
                | (refine opE_call rfl hb (fun _ => trivial) (fun h => (by cases h)) 28 #[.slice Au xsu.length cu, I k] ?_ ?_
                   · (simp only [execOp, resolve, Oper.about, envB, lookB, lookV, nthV, List.map_toArray, List.map_cons, List.map_nil, Nat.reduceEqDiff, reduceIte, Nat.succ_ne_zero, Nat.zero_ne_one, Nat.one_ne_zero, Nat.reduceAdd, Nat.zero_add])
                     go_simp
                   · refine callsIn_wide.2 ((HU28.out _ hC).mono ?_)
                     rintro e w6 ⟨rfl, rfl⟩
                     exact ⟨_, rfl, hK _ hC⟩)
            · (intro W hC; have HC := Lib.hid hC; clear hC; simp only [putD, nthV, Act.put, List.setIfInBounds_toArray, List.set_cons_succ, List.set_cons_zero, Nat.zero_add, Nat.reduceAdd])
              have hC0 := HC.out
              have hDq := hDr.trans (hC0.mono hDr.size)
              clear HC
              by_cases hk0 : kids m k = []
              · have hkb : decide (kids m k = []) = true := decide_eq_true hk0
                have HK0 := Lib.hid hk0
                clear hk0
                go_wp2_with (first
                  | (go_at_call 29; refine (HW29.out k _ hDq).mono ?_; rw [hkb]; rintro e w9 ⟨rfl, hB9⟩; have hC9 := hC0.trans (hB9.mono hC0.size))
                  | fail)
                obtain ⟨n0, n1, n2, n3⟩ := HCE.out _ hC9
                refine (wpIn_wide (n := 9)).1 ?_
                refine wpIn_region_plan (Plan.ons [0, 1, 2, 3, 4, 5, 6, 7, 8, 9, 10, 11, 12, 13] .fin) [] (fun _ => True) [] rfl (by kernel_rfl) (by kernel_rfl) (fun _ d _ _ _ h => by cases d <;> exact h) trivial ?_
                iterate 14 (refine ordQ_li rfl rfl rfl (fun K hK => ?_); go_simp; refine hK _ ?_; clear hK K)
                refine ordQ_fin ?_
                have hRL : Below u3.heap.size u3 w9.drew := (hB.trans (hC9.mono hzB)).drew
                have HM9 : Hid (mu + wo = sumL (wellOver m (xF xl)) (List.range (k + 1))) := Lib.hid HSTEP.out.symm
                have hbw := HBND.out
                go_wp2
                go_roundw
                case rel => first | exact ⟨k + 1, mu + wo, by omega, by go_num, by rw [HWO.out, if_pos HK0.out], by omega, HM9, hRL⟩ | ((repeat apply Exists.intro); refine ⟨?_, rfl⟩; exact ⟨k + 1, mu + wo, by omega, by go_num, by rw [HWO.out, if_pos HK0.out], by omega, HM9, hRL⟩)
                case measure => first | (simp [intOf]; done) | (simp [intOf]; omega)
              · have hkb : decide (kids m k = []) = false := decide_eq_false hk0
                have HK0 := Lib.hid hk0
                clear hk0
                go_wp2_with (first
                  | (go_at_call 29; refine (HW29.out k _ hDq).mono ?_; rw [hkb]; rintro e w9 ⟨rfl, hB9⟩; have hC9 := hC0.trans (hB9.mono hC0.size))
                  | fail)
                have hRL : Below u3.heap.size u3 w9 := hB.trans (hC9.mono hzB)
                have HM9 : Hid (mu + wo = sumL (wellOver m (xF xl)) (List.range (k + 1))) := Lib.hid HSTEP.out.symm
                have hbw := HBND.out
                go_roundw
                case rel => first | exact ⟨k + 1, mu + wo, by omega, by go_num, by rw [HWO.out, if_neg HK0.out, Int.add_zero], by omega, HM9, hRL⟩ | ((repeat apply Exists.intro); refine ⟨?_, rfl⟩; exact ⟨k + 1, mu + wo, by omega, by go_num, by rw [HWO.out, if_neg HK0.out, Int.add_zero], by omega, HM9, hRL⟩)
                case measure => first | (simp [intOf]; done) | (simp [intOf]; omega)
          · go_wp2_with (fail)
            go_quiet (fail)
            have hp0 : Below wr.heap.size wr (wr.drewN nq) := below_drewN (Below.refl _ _) _
            generalize wr.drewN nq = wp at *
            obtain ⟨x1, a1, s1, s2⟩ := HCE.out _ hp0
            go_wp2
            go_quiet (fail)
            have hq0 : Below wr.heap.size wr (wp.drewN nq) := below_drewN hp0 _
            generalize wp.drewN nq = wq at *
            clear x1 a1 s1 s2
            go_wp2_with (fail)
            refine (wpIn_wide (n := 9)).1 ?_
            refine wpIn_region_valsB [some 163, some 164, some 165, some 166, some 167, some 168, some 169, some 170, some 171, some 172, some 173, some 174, some 175, some 176, some 177, some 178, some 179, some 180, some 181, some 182, some 183, some 184, some 185, some 186, some 187, some 188, some 189, some 190, some 191, some 192, some 193, some 194, some 195, some 196, some 197, some 198, some 199, some 200, some 201, some 202, some 203, some 204, some 205, some 206, some 207, some 208, some 209, some 210, some 211, some 212, some 213, some 214, some 215, some 216]
              (nthV [.bool true, .bool true, .func (.func 28) #[] #[], .slice Ap xp.length cp, I k, .bool true, .bool false, .bool false, .bool false, .func (.func 28) #[] #[], .slice Au xsu.length cu, I k, .bool false, .bool false, undef, undef, .bool false, .bool false, .bool false, .func (.func 28) #[] #[], .slice Au xsu.length cu, I k, .bool false, .slice (some ⟨sb, so, none⟩) m.length cs, I k, .pointer (some ⟨sb, so + k * 2, none⟩), .pointer (some ⟨sb, so + k * 2, none⟩), I lo, .slice (some ⟨ab, ao, none⟩) m.length c, I k, .pointer (some ⟨ab, ao + k * 2, none⟩), .pointer (some ⟨ab, ao + k * 2 + 1, none⟩), I lm, .bool false, .bool false, .bool false, .bool false, .func (.func 28) #[] #[], .slice Ap xp.length cp, I k, .bool true, .slice (some ⟨sb, so, none⟩) m.length cs, I k, .pointer (some ⟨sb, so + k * 2, none⟩), .pointer (some ⟨sb, so + k * 2 + 1, none⟩), I hi, .slice (some ⟨ab, ao, none⟩) m.length c, I k, .pointer (some ⟨ab, ao + k * 2, none⟩), .pointer (some ⟨ab, ao + k * 2 + 1, none⟩), I lm, .bool true, .bool false, .bool false])
              [(0, .slice (some ⟨ab, ao, none⟩) m.length c), (13, .slice (some ⟨sb, so, none⟩) m.length cs), (15, .slice Au xsu.length cu), (16, .slice Ap xp.length cp), (21, .func (.func 28) #[] #[]), (22, I k), (23, .bool true)]
              (fun W => Below wr.heap.size wr W) rfl (by kernel_rfl) (fun _ => trivial) (by kernel_rfl) (by kernel_rfl) (by kernel_rfl) ⟨rfl, rfl, rfl, rfl, rfl, rfl, rfl, trivial⟩ (fun _ d _ _ _ h => by cases d <;> exact h) hq0.drew ?_ ?_
            · refine ⟨?_, ?_, ?_, ?_, ?_, ?_, ?_, ?_, ?_, ?_, ?_, ?_, ?_, ?_, ?_, ?_, ?_, ?_, ?_, ?_, ?_, ?_, ?_, ?_, ?_, ?_, ?_, ?_, ?_, ?_, ?_, ?_, ?_, ?_, ?_, ?_, ?_, ?_, ?_, ?_, ?_, ?_, ?_, ?_, ?_, ?_, ?_, ?_, ?_, ?_, ?_, ?_, ?_, ?_, trivial⟩
              all_goals (intro x W hC; obtain ⟨n0, n1, n2, n3⟩ := HCE.out _ hC)
              all_goals first
                | (refine e_no rfl ?_; rfl)
                | (refine e_yes rfl ?_; intro b e hb K hK)
              all_goals first
                | (refine opE_li rfl hb ?_; simp only [execOp, Oper.about, envB, lookB, lookV, nthV, List.map_toArray, List.map_cons, List.map_nil, Nat.reduceEqDiff, reduceIte, Nat.succ_ne_zero, Nat.zero_ne_one, Nat.one_ne_zero, Nat.reduceAdd, Nat.zero_add]; go_simp; exact hK _ hC)
                | (refine opE_call rfl hb (fun _ => trivial) (fun h => (by cases h)) 28 #[.slice Ap xp.length cp, I k] ?_ ?_
                   · (simp only [execOp, resolve, Oper.about, envB, lookB, lookV, nthV, List.map_toArray, List.map_cons, List.map_nil, Nat.reduceEqDiff, reduceIte, Nat.succ_ne_zero, Nat.zero_ne_one, Nat.one_ne_zero, Nat.reduceAdd, Nat.zero_add])
                     go_simp
                   · refine callsIn_wide.2 ((HP28.out _ hC).mono ?_)
                     rintro e w6 ⟨rfl, rfl⟩
                     exact ⟨_, rfl, hK _ hC⟩)
                | (refine opE_call rfl hb (fun _ => trivial) (fun h => (by cases h)) 28 #[.slice Au xsu.length cu, I k] ?_ ?_
                   · (simp only [execOp, resolve, Oper.about, envB, lookB, lookV, nthV, List.map_toArray, List.map_cons, List.map_nil, Nat.reduceEqDiff, reduceIte, Nat.succ_ne_zero, Nat.zero_ne_one, Nat.one_ne_zero, Nat.reduceAdd, Nat.zero_add])
                     go_simp
                   · refine callsIn_wide.2 ((HU28.out _ hC).mono ?_)
                     rintro e w6 ⟨rfl, rfl⟩
                     exact ⟨_, rfl, hK _ hC⟩)
            · (intro W hC; have HC := Lib.hid hC; clear hC; simp only [putD, nthV, Act.put, List.setIfInBounds_toArray, List.set_cons_succ, List.set_cons_zero, Nat.zero_add, Nat.reduceAdd])
              have hC0 := HC.out
              have hDq := hDr.trans (hC0.mono hDr.size)
              clear HC
              by_cases hk0 : kids m k = []
              · have hkb : decide (kids m k = []) = true := decide_eq_true hk0
                have HK0 := Lib.hid hk0
                clear hk0
                go_wp2_with (first
                  | (go_at_call 29; refine (HW29.out k _ hDq).mono ?_; rw [hkb]; rintro e w9 ⟨rfl, hB9⟩; have hC9 := hC0.trans (hB9.mono hC0.size))
                  | fail)
                obtain ⟨n0, n1, n2, n3⟩ := HCE.out _ hC9
                refine (wpIn_wide (n := 9)).1 ?_
                refine wpIn_region_plan (Plan.ons [0, 1, 2, 3, 4, 5, 6, 7, 8, 9, 10, 11, 12, 13] .fin) [] (fun _ => True) [] rfl (by kernel_rfl) (by kernel_rfl) (fun _ d _ _ _ h => by cases d <;> exact h) trivial ?_
                iterate 14 (refine ordQ_li rfl rfl rfl (fun K hK => ?_); go_simp; refine hK _ ?_; clear hK K)
                refine ordQ_fin ?_
                have hRL : Below u3.heap.size u3 w9.drew := (hB.trans (hC9.mono hzB)).drew
                have HM9 : Hid (mu + wo = sumL (wellOver m (xF xl)) (List.range (k + 1))) := Lib.hid HSTEP.out.symm
                have hbw := HBND.out
                go_wp2
                go_roundw
                case rel => first | exact ⟨k + 1, mu + wo, by omega, by go_num, by rw [HWO.out, if_pos HK0.out], by omega, HM9, hRL⟩ | ((repeat apply Exists.intro); refine ⟨?_, rfl⟩; exact ⟨k + 1, mu + wo, by omega, by go_num, by rw [HWO.out, if_pos HK0.out], by omega, HM9, hRL⟩)
                case measure => first | (simp [intOf]; done) | (simp [intOf]; omega)
              · have hkb : decide (kids m k = []) = false := decide_eq_false hk0
                have HK0 := Lib.hid hk0
                clear hk0
                go_wp2_with (first
                  | (go_at_call 29; refine (HW29.out k _ hDq).mono ?_; rw [hkb]; rintro e w9 ⟨rfl, hB9⟩; have hC9 := hC0.trans (hB9.mono hC0.size))
                  | fail)
                have hRL : Below u3.heap.size u3 w9 := hB.trans (hC9.mono hzB)
                have HM9 : Hid (mu + wo = sumL (wellOver m (xF xl)) (List.range (k + 1))) := Lib.hid HSTEP.out.symm
                have hbw := HBND.out
                go_roundw
                case rel => first | exact ⟨k + 1, mu + wo, by omega, by go_num, by rw [HWO.out, if_neg HK0.out, Int.add_zero], by omega, HM9, hRL⟩ | ((repeat apply Exists.intro); refine ⟨?_, rfl⟩; exact ⟨k + 1, mu + wo, by omega, by go_num, by rw [HWO.out, if_neg HK0.out, Int.add_zero], by omega, HM9, hRL⟩)
                case measure => first | (simp [intOf]; done) | (simp [intOf]; omega)
          · go_wp2_with (fail)
            go_quiet (fail)
            have hp0 : Below wr.heap.size wr (wr.drewN nq) := below_drewN (Below.refl _ _) _
            generalize wr.drewN nq = wp at *
            obtain ⟨x1, a1, s1, s2⟩ := HCE.out _ hp0
            go_wp2
            go_quiet (fail)
            have hq0 : Below wr.heap.size wr (wp.drewN nq) := below_drewN hp0 _
            generalize wp.drewN nq = wq at *
            clear x1 a1 s1 s2
            go_wp2_with (fail)
            refine (wpIn_wide (n := 9)).1 ?_
            refine wpIn_region_valsB [some 163, some 164, some 165, some 166, some 167, some 168, some 169, some 170, some 171, some 172, some 173, some 174, some 175, some 176, some 177, some 178, some 179, some 180, some 181, some 182, some 183, some 184, some 185, some 186, some 187, some 188, some 189, some 190, some 191, some 192, some 193, some 194, some 195, some 196, some 197, some 198, some 199, some 200, some 201, some 202, some 203, some 204, some 205, some 206, some 207, some 208, some 209, some 210, some 211, some 212, some 213, some 214, some 215, some 216]
              (nthV [.bool true, .bool true, .func (.func 28) #[] #[], .slice Ap xp.length cp, I k, .bool true, .bool false, .bool false, .bool false, .func (.func 28) #[] #[], .slice Au xsu.length cu, I k, .bool true, .bool true, .bool true, .bool false, .bool false, .bool false, .bool false, .func (.func 28) #[] #[], .slice Au xsu.length cu, I k, .bool true, .slice (some ⟨sb, so, none⟩) m.length cs, I k, .pointer (some ⟨sb, so + k * 2, none⟩), .pointer (some ⟨sb, so + k * 2, none⟩), I lo, .slice (some ⟨ab, ao, none⟩) m.length c, I k, .pointer (some ⟨ab, ao + k * 2, none⟩), .pointer (some ⟨ab, ao + k * 2 + 1, none⟩), I lm, .bool true, .bool false, .bool false, .bool false, .func (.func 28) #[] #[], .slice Ap xp.length cp, I k, .bool true, .slice (some ⟨sb, so, none⟩) m.length cs, I k, .pointer (some ⟨sb, so + k * 2, none⟩), .pointer (some ⟨sb, so + k * 2 + 1, none⟩), I hi, .slice (some ⟨ab, ao, none⟩) m.length c, I k, .pointer (some ⟨ab, ao + k * 2, none⟩), .pointer (some ⟨ab, ao + k * 2 + 1, none⟩), I lm, .bool true, .bool false, .bool false])
              [(0, .slice (some ⟨ab, ao, none⟩) m.length c), (13, .slice (some ⟨sb, so, none⟩) m.length cs), (15, .slice Au xsu.length cu), (16, .slice Ap xp.length cp), (21, .func (.func 28) #[] #[]), (22, I k), (23, .bool true)]
              (fun W => Below wr.heap.size wr W) rfl (by kernel_rfl) (fun _ => trivial) (by kernel_rfl) (by kernel_rfl) (by kernel_rfl) ⟨rfl, rfl, rfl, rfl, rfl, rfl, rfl, trivial⟩ (fun _ d _ _ _ h => by cases d <;> exact h) hq0.drew ?_ ?_
            · refine ⟨?_, ?_, ?_, ?_, ?_, ?_, ?_, ?_, ?_, ?_, ?_, ?_, ?_, ?_, ?_, ?_, ?_, ?_, ?_, ?_, ?_, ?_, ?_, ?_, ?_, ?_, ?_, ?_, ?_, ?_, ?_, ?_, ?_, ?_, ?_, ?_, ?_, ?_, ?_, ?_, ?_, ?_, ?_, ?_, ?_, ?_, ?_, ?_, ?_, ?_, ?_, ?_, ?_, ?_, trivial⟩
              all_goals (intro x W hC; obtain ⟨n0, n1, n2, n3⟩ := HCE.out _ hC)
              all_goals first
                | (refine e_no rfl ?_; rfl)
                | (refine e_yes rfl ?_; intro b e hb K hK)
              all_goals first
                | (refine opE_li rfl hb ?_; simp only [execOp, Oper.about, envB, lookB, lookV, nthV, List.map_toArray, List.map_cons, List.map_nil, Nat.reduceEqDiff, reduceIte, Nat.succ_ne_zero, Nat.zero_ne_one, Nat.one_ne_zero, Nat.reduceAdd, Nat.zero_add]; go_simp; exact hK _ hC)
                | (refine opE_call rfl hb (fun _ => trivial) (fun h => (by cases h)) 28 #[.slice Ap xp.length cp, I k] ?_ ?_
                   · (simp only [execOp, resolve, Oper.about, envB, lookB, lookV, nthV, List.map_toArray, List.map_cons, List.map_nil, Nat.reduceEqDiff, reduceIte, Nat.succ_ne_zero, Nat.zero_ne_one, Nat.one_ne_zero, Nat.reduceAdd, Nat.zero_add])
                     go_simp
                   · refine callsIn_wide.2 ((HP28.out _ hC).mono ?_)
                     rintro e w6 ⟨rfl, rfl⟩
                     exact ⟨_, rfl, hK _ hC⟩)
                | (refine opE_call rfl hb (fun _ => trivial) (fun h => (by cases h)) 28 #[.slice Au xsu.length cu, I k] ?_ ?_
                   · (simp only [execOp, resolve, Oper.about, envB, lookB, lookV, nthV, List.map_toArray, List.map_cons, List.map_nil, Nat.reduceEqDiff, reduceIte, Nat.succ_ne_zero, Nat.zero_ne_one, Nat.one_ne_zero, Nat.reduceAdd, Nat.zero_add])
                     go_simp
                   · refine callsIn_wide.2 ((HU28.out _ hC).mono ?_)
                     rintro e w6 ⟨rfl, rfl⟩
                     exact ⟨_, rfl, hK _ hC⟩)
            · (intro W hC; have HC := Lib.hid hC; clear hC; simp only [putD, nthV, Act.put, List.setIfInBounds_toArray, List.set_cons_succ, List.set_cons_zero, Nat.zero_add, Nat.reduceAdd])
              have hC0 := HC.out
              have hDq := hDr.trans (hC0.mono hDr.size)
              clear HC
              by_cases hk0 : kids m k = []
              · have hkb : decide (kids m k = []) = true := decide_eq_true hk0
                have HK0 := Lib.hid hk0
                clear hk0
                go_wp2_with (first
                  | (go_at_call 29; refine (HW29.out k _ hDq).mono ?_; rw [hkb]; rintro e w9 ⟨rfl, hB9⟩; have hC9 := hC0.trans (hB9.mono hC0.size))
                  | fail)
                obtain ⟨n0, n1, n2, n3⟩ := HCE.out _ hC9
                refine (wpIn_wide (n := 9)).1 ?_
                refine wpIn_region_plan (Plan.ons [0, 1, 2, 3, 4, 5, 6, 7, 8, 9, 10, 11, 12, 13] .fin) [] (fun _ => True) [] rfl (by kernel_rfl) (by kernel_rfl) (fun _ d _ _ _ h => by cases d <;> exact h) trivial ?_
                iterate 14 (refine ordQ_li rfl rfl rfl (fun K hK => ?_); go_simp; refine hK _ ?_; clear hK K)
                refine ordQ_fin ?_
                have hRL : Below u3.heap.size u3 w9.drew := (hB.trans (hC9.mono hzB)).drew
                have HM9 : Hid (mu + wo = sumL (wellOver m (xF xl)) (List.range (k + 1))) := Lib.hid HSTEP.out.symm
                have hbw := HBND.out
                go_wp2
                go_roundw
                case rel => first | exact ⟨k + 1, mu + wo, by omega, by go_num, by rw [HWO.out, if_pos HK0.out], by omega, HM9, hRL⟩ | ((repeat apply Exists.intro); refine ⟨?_, rfl⟩; exact ⟨k + 1, mu + wo, by omega, by go_num, by rw [HWO.out, if_pos HK0.out], by omega, HM9, hRL⟩)
                case measure => first | (simp [intOf]; done) | (simp [intOf]; omega)
              · have hkb : decide (kids m k = []) = false := decide_eq_false hk0
                have HK0 := Lib.hid hk0
                clear hk0
                go_wp2_with (first
                  | (go_at_call 29; refine (HW29.out k _ hDq).mono ?_; rw [hkb]; rintro e w9 ⟨rfl, hB9⟩; have hC9 := hC0.trans (hB9.mono hC0.size))
                  | fail)
                have hRL : Below u3.heap.size u3 w9 := hB.trans (hC9.mono hzB)
                have HM9 : Hid (mu + wo = sumL (wellOver m (xF xl)) (List.range (k + 1))) := Lib.hid HSTEP.out.symm
                have hbw := HBND.out
                go_roundw
                case rel => first | exact ⟨k + 1, mu + wo, by omega, by go_num, by rw [HWO.out, if_neg HK0.out, Int.add_zero], by omega, HM9, hRL⟩ | ((repeat apply Exists.intro); refine ⟨?_, rfl⟩; exact ⟨k + 1, mu + wo, by omega, by go_num, by rw [HWO.out, if_neg HK0.out, Int.add_zero], by omega, HM9, hRL⟩)
                case measure => first | (simp [intOf]; done) | (simp [intOf]; omega)
        · obtain rfl : m.length = k := by omega
          have hle : n0 ≤ mu := by rw [HMU.out]; exact HN0.out.2 _ HFE.out
          have hn00 : 0 ≤ n0 := by
            obtain ⟨⟨x', _, e'⟩, _⟩ := HN0.out
            rw [← e']
            exact total_nonnegT m x'
          have g1 : decide ((0 : Int) ≤ n0) = true := decide_eq_true hn00
          have g2 : decide (n0 ≤ mu) = true := decide_eq_true hle
          clear hle hn00
          go_wp2_with (first
            | (go_at_call 12; refine (HA.out _ hDr).mono ?_; rintro e u4 ⟨rfl, hC4⟩)
            | fail)
          go_ret
          exact ⟨rfl, hDr.trans (hC4.mono hDr.size)⟩
end Go.Proofs.YtgdilbilhajgaaaDoor
