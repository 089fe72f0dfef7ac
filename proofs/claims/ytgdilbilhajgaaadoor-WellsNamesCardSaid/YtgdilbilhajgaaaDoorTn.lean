/- WellsNames: the walk. -/
import Derived.Test.YtgdilbilhajgaaaDoorCa
import Derived.Test.YtgdilbilhajgaaaDoorE26
namespace Go.Proofs.YtgdilbilhajgaaaDoor
set_option linter.unusedVariables false
set_option linter.unusedSimpArgs false
open Go Go.RowKit

theorem surelyL_congr {m : List (Int × Int)} {d d' : Nat → Int × Int} (h : ∀ i, i < m.length → d i = d' i) : surelyL m d = surelyL m d' ∧ perhapsL m d = perhapsL m d' := by
  unfold surelyL perhapsL ovL
  constructor
  · congr 1
    exact List.filter_congr fun i hi => by rw [h i (List.mem_range.1 hi)]
  · congr 1
    exact List.filter_congr fun i hi => by rw [h i (List.mem_range.1 hi)]
theorem surely0 : surelyL m0 (sF s0) = [0, 1, 2, 5] := by decide +kernel
theorem perhaps0 : perhapsL m0 (sF s0) = [0, 1, 2, 3, 4, 5] := by decide +kernel
theorem over0 (A B : Option Addr) (c d : Nat) (w : World) (hm : Pairs w w.heap.size A m0) (hl : Threes w w.heap.size B l0) :
    Calls Tryd.prog 23 #[.slice A 6 c, .slice B 3 d] w fun e w' => ∃ A2 c2 A3 c3, e = .returned (.tuple #[.slice A2 4 c2, .slice A3 6 c3, I 0]) ∧ Ints w' w'.heap.size A2 [0, 1, 2, 5] ∧ Ints w' w'.heap.size A3 [0, 1, 2, 3, 4, 5] ∧ Below w.heap.size w w' := by
  refine (over23 A B c d m0 l0 w hm (by decide) hl (by decide)).mono ?_
  rintro e w' ⟨hB, ⟨h, _⟩ | ⟨_, h, _⟩ | ⟨_, v1, v2, d, rfl, h1, h2, _, hsp⟩⟩
  · exact absurd in0_ok h
  · exact absurd ⟨x0, x0_feas⟩ h
  · obtain ⟨e1, e2⟩ := surelyL_congr (m := m0) (d := d) (d' := sF s0) fun i hi => hsp.eq sp0 hi
    rw [e1, surely0] at h1
    rw [e2, perhaps0] at h2
    obtain ⟨A2, c2, rfl, i2⟩ := ints_ownN h1 rfl
    obtain ⟨A3, c3, rfl, i3⟩ := ints_ownN h2 rfl
    exact ⟨A2, c2, A3, c3, rfl, i2, i3, hB⟩
theorem proofn0 (A B : Option Addr) (c d : Nat) (w : World) (hm : Pairs w w.heap.size A m0) (hl : Threes w w.heap.size B l0) (hT : TabOk w) :
    Calls Tryd.prog 13 #[.slice A 6 c, .slice B 3 d, I 4] w fun e w' => e = .returned (.tuple #[nilS, I 4]) ∧ Below w.heap.size w w' := by
  refine (proof13 A B c d (4 : Nat) m0 l0 w hm (by decide) hl (by decide) hT).mono ?_
  have hin : inB ((4 : Nat) : Int) 0 ((m0.length : Int) - 1) = true := inB_true.2 ⟨by decide, by decide⟩
  rintro e w' ⟨hB, ⟨h, _⟩ | ⟨_, h, _⟩ | ⟨_, _, h, _⟩ | ⟨_, _, _, h, rfl⟩ | ⟨_, _, h, v, p, rfl, ho, hp⟩⟩
  · exact absurd in0_ok h
  · rw [hin] at h; cases h
  · exact absurd ⟨x0, x0_feas⟩ h
  · exact ⟨rfl, hB⟩
  · have hlt : ofBits p < 2 ^ 3 := ofBits_lt p hp.lt
    have e := bits_of hp.sorted (fun k hk => by have : k < 3 := hp.lt k hk; omega)
    have hs := hp.sure
    rw [← e] at hs
    have h2 := (sureBits 4 (by decide) _ hlt).1 hs
    have h3 : ∀ s, s < 8 → ¬ limW m0 4 < (sF (spL m0 (someL l0 (bitsL s))) 4).1 := by decide +kernel
    exact absurd h2 (h3 _ hlt)
theorem wrong0 : ¬ ∃ x, Feas m0 (l0 ++ [(2, 0, 17)]) x := by
  rintro ⟨x, hx⟩
  have h := feas_iff.1 hx
  have h0 : Feas m0 l0 x := feas_iff.2 fun i hi => ⟨⟨(h i hi).1.1, fun r hr => (h i hi).1.2 r (by simp [hr])⟩, (h i hi).2⟩
  have a := sp0.sound x h0 2 (by decide)
  have b := (h 2 (by decide)).1.2 (2, 0, 17) (by simp) rfl
  have e : sF s0 2 = (18, 26) := by decide
  rw [e] at a
  simp only at a b
  omega
theorem inw_ok : InOk m0 (l0 ++ [(2, 0, 17)]) := ⟨m0_ok, by unfold RdsOk rdP l0; decide⟩
theorem flowsw0 (A B : Option Addr) (c d : Nat) (w : World) (hm : Pairs w w.heap.size A m0) (hl : Threes w w.heap.size B (l0 ++ [(2, 0, 17)])) :
    Calls Tryd.prog 18 #[.slice A 6 c, .slice B 4 d] w fun e w' => e = .returned (.tuple #[nilS, I 6]) ∧ Below w.heap.size w w' := by
  refine (flows18 A B c d m0 (l0 ++ [(2, 0, 17)]) w hm (by decide) hl (by decide)).mono ?_
  rintro e w' ⟨hB, ⟨h, _⟩ | ⟨_, h, rfl⟩ | ⟨_, v, sl, rfl, ho, hsl, hsp⟩⟩
  · exact absurd inw_ok h
  · exact ⟨rfl, hB⟩
  · exact absurd hsp.some wrong0
set_option maxRecDepth 100000 in
theorem sample26n (w : World) :
    Calls Tryd.prog 26 #[] w fun e w' => ∃ b g, e = .returned (.tuple #[.slice (some ⟨b, 0, none⟩) 6 6, .slice (some ⟨g, 0, none⟩) 3 3]) ∧ Pairs w' w'.heap.size (some ⟨b, 0, none⟩) m0 ∧ Threes w' w'.heap.size (some ⟨g, 0, none⟩) l0 ∧ Below w.heap.size w w' := by
  go_enter Tryd.func26, Tryd.ntmps26
  go_wp2_with (first
    | (go_at_call 21; refine (span21 _ _ _).mono ?_; rintro e w1 ⟨rfl, rfl⟩)
    | fail)
  go_ret2
  refine ⟨_, _, rfl, fun _ => ⟨_, 0, rfl, ?_, fun k hk => ?_⟩, fun _ => ⟨_, 0, rfl, ?_, fun k hk => ?_⟩, by (repeat' (first | assumption | exact Below.refl _ _ | refine Below.drew ?_ | refine below_drewN ?_ _ | refine Below.setCell ?_ (by first | omega | (simp; done) | (simp; omega)) _ | refine Below.alloc ?_ (by first | omega | (simp; done) | (simp; omega)) _ | refine Below.trans ?_ (Below.mono (by assumption) (by first | omega | (simp; done) | (simp; omega)))))⟩
  · simp; try omega
  · match k, hk with
    | 0, _ => constructor <;> (simp [go_sem, m0]; done)
    | 1, _ => constructor <;> (simp [go_sem, m0]; done)
    | 2, _ => constructor <;> (simp [go_sem, m0]; done)
    | 3, _ => constructor <;> (simp [go_sem, m0]; done)
    | 4, _ => constructor <;> (simp [go_sem, m0]; done)
    | 5, _ => constructor <;> (simp [go_sem, m0]; done)
  · simp; try omega
  · match k, hk with
    | 0, _ => refine ⟨?_, ?_, ?_⟩ <;> (simp [go_sem, l0]; done)
    | 1, _ => refine ⟨?_, ?_, ?_⟩ <;> (simp [go_sem, l0]; done)
    | 2, _ => refine ⟨?_, ?_, ?_⟩ <;> (simp [go_sem, l0]; done)
theorem ints_litN (xs : List Int) (k : Nat) (hk : xs.length = k) (hk2 : k ≤ 100) (A2 : Option Addr) (c2 c3 g : Nat) (W0 W : World) (hW : W = W0.alloc (.cells (xs.map I).toArray 3)) (hg : g = W0.heap.size) (hs : Ints W0 W0.heap.size A2 xs) :
    Calls Tryd.prog 17 #[.slice A2 k c2, .slice (some ⟨g, 0, none⟩) k c3] W fun e w' => e = .returned (.bool true) ∧ Below W0.heap.size W0 w' := by
  subst hg hW hk
  have hb : Below W0.heap.size W0 (W0.alloc (.cells (xs.map I).toArray 3)) := (Below.refl _ _).alloc (Nat.le_refl _) _
  have h1 : Ints (W0.alloc (.cells (xs.map I).toArray 3)) (W0.heap.size + 1) (some ⟨W0.heap.size, 0, none⟩) xs := ints_new xs W0 3
  rw [← World.size_alloc W0 (.cells (xs.map I).toArray 3)] at h1
  refine (ints17 A2 (some ⟨W0.heap.size, 0, none⟩) c2 c3 xs xs _ ((hs.below hb).more hb.size) h1 (by omega) (by omega)).mono ?_
  rintro e w' ⟨rfl, hB⟩
  exact ⟨by simp, hb.trans (hB.mono hb.size)⟩

set_option maxRecDepth 100000 in
set_option maxHeartbeats 8000000 in
theorem names_any (w : World) (hT : TabOk w) : Calls Tryd.prog 6 #[] w fun e w' => e = .returned (.bool true) ∧ Below w.heap.size w w' := by
  obtain ⟨i0, hi0, hi1, hi2, hi3⟩ := info_parts info42
  have hu : Tryd.prog.underlying 23 = some (.slice 42) := Tryd.underlying23
  have HU := Lib.hid hu; have HI0 := Lib.hid hi0; have HI1 := Lib.hid hi1; have HI2 := Lib.hid hi2; have HI3 := Lib.hid hi3
  have HT := Lib.hid hT
  clear hT hu hi0 hi1 hi2 hi3
  go_enter Tryd.func6, Tryd.ntmps6
  go_wp2_with (first
    | (go_at_call 26; refine (sample26n _).mono ?_; rintro e w1 ⟨ma, la, rfl, hm, hl, hB1⟩; have HM := Lib.hid hm; have HL := Lib.hid hl; clear hm hl)
    | (go_at_call 23; refine (over0 _ _ _ _ _ HM.out HL.out).mono ?_; rintro e w2 ⟨A2, c2, A3, c3, rfl, h2, h3, hB2⟩; have hB12 := hB1.trans (hB2.mono hB1.size); have HM2 := Lib.hid ((HM.out.below hB2).more hB2.size); have HL2 := Lib.hid ((HL.out.below hB2).more hB2.size); have HS2 := Lib.hid h2; have HS3 := Lib.hid h3; clear h2 h3 HM HL)
    | (go_at_call 13; refine (proof0 _ _ _ _ _ HM2.out HL2.out (HT.out.below hB12) 1 (by decide) [1] proof0_1 sure0_1).mono ?_; rintro e w3 ⟨A4, c4, rfl, hp, hB3⟩; have hB13 := hB12.trans (hB3.mono hB12.size); have HM3 := Lib.hid ((HM2.out.below hB3).more hB3.size); have HL3 := Lib.hid ((HL2.out.below hB3).more hB3.size); have HP3 := Lib.hid hp; have HS23 := Lib.hid ((HS2.out.below hB3).more hB3.size); have HS33 := Lib.hid ((HS3.out.below hB3).more hB3.size); clear hp HM2 HL2 HS2 HS3)
    | (go_at_call 13; refine (proofn0 _ _ _ _ _ HM3.out HL3.out (HT.out.below hB13)).mono ?_; rintro e w4 ⟨rfl, hB4⟩; have hB14 := hB13.trans (hB4.mono hB13.size); have HM4 := Lib.hid ((HM3.out.below hB4).more hB4.size); have HL4 := Lib.hid ((HL3.out.below hB4).more hB4.size); have HP4 := Lib.hid ((HP3.out.below hB4).more hB4.size); have HS24 := Lib.hid ((HS23.out.below hB4).more hB4.size); have HS34 := Lib.hid ((HS33.out.below hB4).more hB4.size); clear HM3 HL3 HP3 HS23 HS33)
    | (go_at_call 21; refine (span21 _ _ _).mono ?_; rintro e w5 ⟨rfl, rfl⟩)
    | (at_builtin; have hB45 : Below w4.heap.size w4 ((w4.alloc (.cells #[I 0, I 17] 39)).alloc (.cells #[I 2, I 0, I 17] 42)) := (by (repeat' (first | assumption | exact Below.refl _ _ | refine Below.drew ?_ | refine below_drewN ?_ _ | refine Below.setCell ?_ (by first | omega | (simp; done) | (simp; omega)) _ | refine Below.alloc ?_ (by first | omega | (simp; done) | (simp; omega)) _ | refine Below.trans ?_ (Below.mono (by assumption) (by first | omega | (simp; done) | (simp; omega)))))); have HL45 := Lib.hid (flat3_at (HL4.out.below hB45)); have HC45 := Lib.hid (cells3 (w4.alloc (.cells #[I 0, I 17] 39)) (I 2) (I 0) (I 17) 42);
       refine wpList_append_grows _ rfl _ _ 23 rfl 42 i0 (.agg #[I 0, I 0, I 0]) 3 24 HU.out HI0.out HI1.out HI2.out HI3.out rfl (by decide) (some ⟨la, 0, none⟩) 3 3 (flat3 l0) rfl (fun h => by cases h) rfl (fun b hb => by obtain ⟨ad, e1, e2⟩ := HL45.out (by decide); rw [e1] at hb; cases hb; exact e2) ⟨w4.heap.size + 1, 0, none⟩ 1 1 [I 2, I 0, I 17] rfl rfl (by simpa using HC45.out) (by simp [Value.oneCell']) (by decide) (by decide) (by decide) ?_;
       intro v5 w5 hown hgrow; have hB5 : Below w4.heap.size w4 w5 := hB45.grown hgrow hB45.size (fun g e => by cases e); obtain ⟨A5, c5, rfl, h5⟩ := threes_own (xs := l0 ++ [(2, 0, 17)]) rfl hown; have H5 := Lib.hid h5; have HM5 := Lib.hid ((HM4.out.below hB5).more hB5.size); clear hown hgrow h5 HL45 HC45)
    | (go_at_call 18; refine (flowsw0 _ _ _ _ _ HM5.out H5.out).mono ?_; rintro e w6 ⟨rfl, hB6⟩; have hB46 := hB5.trans (hB6.mono hB5.size); have hB16 := hB14.trans (hB46.mono hB14.size); have HS26 := Lib.hid ((HS24.out.below hB46).more hB46.size); have HS36 := Lib.hid ((HS34.out.below hB46).more hB46.size); have HP6 := Lib.hid ((HP4.out.below hB46).more hB46.size); clear HS24 HS34 HP4)
    | (go_at_call 12; refine (alive12 _ (HT.out.below hB16)).mono ?_; rintro e w7 ⟨rfl, hB7⟩; have hB17 := hB16.trans (hB7.mono hB16.size))
    | (go_at_call 17; refine (ints_litN [0, 1, 2, 5] 4 rfl (by decide) _ _ _ _ _ _ rfl rfl ((HS26.out.below hB7).more hB7.size)).mono ?_; rintro e w8 ⟨rfl, hB8⟩; have hB68 := hB7.trans (hB8.mono hB7.size); clear HS26)
    | (go_at_call 17; refine (ints_litN [0, 1, 2, 3, 4, 5] 6 rfl (by decide) _ _ _ _ _ _ rfl rfl ((HS36.out.below hB68).more hB68.size)).mono ?_; rintro e w9 ⟨rfl, hB9⟩; have hB69 := hB68.trans (hB9.mono hB68.size); clear HS36)
    | (go_at_call 17; refine (ints_litN [1] 1 rfl (by decide) _ _ _ _ _ _ rfl rfl ((HP6.out.below hB69).more hB69.size)).mono ?_; rintro e w10 ⟨rfl, hB10⟩; have hB610 := hB69.trans (hB10.mono hB69.size))
    | fail)
  go_ret
  exact ⟨rfl, hB16.trans (hB610.mono hB16.size)⟩
end Go.Proofs.YtgdilbilhajgaaaDoor
