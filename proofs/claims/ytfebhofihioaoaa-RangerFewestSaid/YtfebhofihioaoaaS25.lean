/- One more ranger is brought, of the program. -/
import Derived.Test.YtfebhofihioaoaaS22
import Derived.Test.YtfebhofihioaoaaA11
import Derived.Laws.EntriesVeiled
namespace Go.Proofs.Ytfebhofihioaoaa
set_option linter.unusedVariables false
set_option linter.unusedSimpArgs false
open Go Go.RowKit

def grid (g : Nat → Nat → Int) : List Value := (List.range 36).map fun k => I (g (k / 6) (k % 6))
theorem grid_at (g : Nat → Nat → Int) {i s : Nat} (hi : i < 6) (hs : s < 6) : (grid g)[i * 6 + s]? = some (I (g i s)) := by
  have h1 : (i * 6 + s) / 6 = i := by omega
  have h2 : (i * 6 + s) % 6 = s := by omega
  have hk : i * 6 + s < 36 := by omega
  simp only [grid, List.getElem?_map, List.getElem?_range hk, Option.map_some, h1, h2]
theorem grid_set (g : Nat → Nat → Int) {i s : Nat} (hi : i < 6) (hs : s < 6) (v : Int) : (grid g).set (i * 6 + s) (I v) = grid (upd2 g i s v) := by
  apply List.ext_getElem
  · simp [grid]
  · intro k h1 h2
    have hk : k < 36 := by simpa [grid] using h2
    rw [List.getElem_set]
    by_cases e : i * 6 + s = k
    · subst e
      have h1 : (i * 6 + s) / 6 = i := by omega
      have h2 : (i * 6 + s) % 6 = s := by omega
      simp [grid, upd2, h1, h2]
    · rw [if_neg e]
      have : ¬ (k / 6 = i ∧ k % 6 = s) := fun h => by omega
      simp [grid, upd2, this]
/-- What 'bring' holds on to, and who is where. -/
structure BrS (W : World) (x : Prk) (A : Option Addr) (c X0 Pb P At Wt Fb Sn : Nat) (at_ : Nat → Int) (wt : Nat → Nat → Int) (seen : Nat) : Prop where
  x0 : Box W X0 [.slice A x.sp.length c, I x.alo, I x.ahi]
  pb : Box W Pb [.pointer (some ⟨P, 0, none⟩)]
  from_ : ∀ s, s < x.n → W.cell? ⟨P, 4 + s, none⟩ = some (I (fromN x s : Nat))
  pz : P < W.heap.size
  fb : Box W Fb [.func (.func 37) #[] #[.pointer (some ⟨X0, 0, none⟩), .pointer (some ⟨Pb, 0, none⟩), .pointer (some ⟨At, 0, none⟩), .pointer (some ⟨Wt, 0, none⟩), .pointer (some ⟨Fb, 0, none⟩)]]
  bat : Box W At (six at_)
  bwt : Box W Wt (grid wt)
  bsn : Box W Sn [I (seen : Nat)]
structure BrD (X0 Pb P At Wt Fb Sn : Nat) : Prop where
  h1 : X0 < At
  h2 : At < P
  h3 : P < Pb
  h4 : Pb < Wt
  h5 : Wt < Fb
  h6 : Fb < Sn
section
variable {W : World} {x : Prk} {A : Option Addr} {c X0 Pb P At Wt Fb Sn : Nat} {at_ : Nat → Int} {wt : Nat → Nat → Int} {seen : Nat}
theorem BrS.setAt (h : BrS W x A c X0 Pb P At Wt Fb Sn at_ wt seen) (d : BrD X0 Pb P At Wt Fb Sn) (i : Nat) (v : Int) : BrS (W.setCell ⟨At, i, none⟩ (I v)) x A c X0 Pb P At Wt Fb Sn (upd1 at_ i v) wt seen := by
  obtain ⟨d1, d2, d3, d4, d5, d6⟩ := d
  exact ⟨h.x0.far (p := ⟨At, i, none⟩) (show At ≠ X0 by omega) _, h.pb.far (p := ⟨At, i, none⟩) (show At ≠ Pb by omega) _, fun s hs => (World.cell?_setCell_other _ _ _ _ (by simp; try omega)).trans (h.from_ s hs), by simpa using h.pz, h.fb.far (p := ⟨At, i, none⟩) (show At ≠ Fb by omega) _, by rw [show upd1 at_ i v = fun k => if k = i then v else at_ k from rfl, ← six_set]; exact h.bat.set i _, h.bwt.far (p := ⟨At, i, none⟩) (show At ≠ Wt by omega) _, h.bsn.far (p := ⟨At, i, none⟩) (show At ≠ Sn by omega) _⟩
theorem BrS.setWt (h : BrS W x A c X0 Pb P At Wt Fb Sn at_ wt seen) (d : BrD X0 Pb P At Wt Fb Sn) {i s : Nat} (hi : i < 6) (hs : s < 6) (v : Int) : BrS (W.setCell ⟨Wt, i * 6 + s, none⟩ (I v)) x A c X0 Pb P At Wt Fb Sn at_ (upd2 wt i s v) seen := by
  obtain ⟨d1, d2, d3, d4, d5, d6⟩ := d
  exact ⟨h.x0.far (p := ⟨Wt, i * 6 + s, none⟩) (show Wt ≠ X0 by omega) _, h.pb.far (p := ⟨Wt, i * 6 + s, none⟩) (show Wt ≠ Pb by omega) _, fun t ht => (World.cell?_setCell_other _ _ _ _ (by simp; try omega)).trans (h.from_ t ht), by simpa using h.pz, h.fb.far (p := ⟨Wt, i * 6 + s, none⟩) (show Wt ≠ Fb by omega) _, h.bat.far (p := ⟨Wt, i * 6 + s, none⟩) (show Wt ≠ At by omega) _, by rw [← grid_set wt hi hs]; exact h.bwt.set _ _, h.bsn.far (p := ⟨Wt, i * 6 + s, none⟩) (show Wt ≠ Sn by omega) _⟩
theorem BrS.setSn (h : BrS W x A c X0 Pb P At Wt Fb Sn at_ wt seen) (d : BrD X0 Pb P At Wt Fb Sn) (T : Nat) : BrS (W.setCell ⟨Sn, 0, none⟩ (I (T : Nat))) x A c X0 Pb P At Wt Fb Sn at_ wt T := by
  obtain ⟨d1, d2, d3, d4, d5, d6⟩ := d
  exact ⟨h.x0.far (p := ⟨Sn, 0, none⟩) (show Sn ≠ X0 by omega) _, h.pb.far (p := ⟨Sn, 0, none⟩) (show Sn ≠ Pb by omega) _, fun s hs => (World.cell?_setCell_other _ _ _ _ (by simp; try omega)).trans (h.from_ s hs), by simpa using h.pz, h.fb.far (p := ⟨Sn, 0, none⟩) (show Sn ≠ Fb by omega) _, h.bat.far (p := ⟨Sn, 0, none⟩) (show Sn ≠ At by omega) _, h.bwt.far (p := ⟨Sn, 0, none⟩) (show Sn ≠ Wt by omega) _, h.bsn.set 0 _⟩
theorem BrS.drew (h : BrS W x A c X0 Pb P At Wt Fb Sn at_ wt seen) : BrS W.drew x A c X0 Pb P At Wt Fb Sn at_ wt seen := ⟨h.x0.drew, h.pb.drew, h.from_, h.pz, h.fb.drew, h.bat.drew, h.bwt.drew, h.bsn.drew⟩
end
/-- What 'bring' promises, for as many unseen posts. -/
def BringIs (x : Prk) (posts : Nat → Int) (A : Option Addr) (c X0 Pb P At Wt Fb Sn m : Nat) : Prop := ∀ (W : World) (at_ : Nat → Int) (wt : Nat → Nat → Int) (s seen : Nat), s < x.n → seen < 64 → unS x.n seen ≤ m → Went x.n (frX x) posts at_ wt → BrS W x A c X0 Pb P At Wt Fb Sn at_ wt seen →
  Calls Try.prog 37 #[I s, .pointer (some ⟨Sn, 0, none⟩), .pointer (some ⟨X0, 0, none⟩), .pointer (some ⟨Pb, 0, none⟩), .pointer (some ⟨At, 0, none⟩), .pointer (some ⟨Wt, 0, none⟩), .pointer (some ⟨Fb, 0, none⟩)] W fun e w' => ∃ (b : Bool) (at' : Nat → Int) (wt' : Nat → Nat → Int) (T : Nat), e = .returned (.bool b) ∧ Frm W.heap.size (fun k => k = At ∨ k = Wt ∨ k = Sn) W w' ∧ BrS w' x A c X0 Pb P At Wt Fb Sn at' wt' T ∧ Brought x.n (frX x) posts at_ wt s seen b at' wt' T
set_option maxRecDepth 100000 in
set_option maxHeartbeats 8000000 in
theorem bring37 (x : Prk) (posts : Nat → Int) (A : Option Addr) (c X0 Pb P At Wt Fb Sn m : Nat) (hx : PrkOk x) (hp : ∀ i, i < x.n → posts i ≤ 12) (hd : BrD X0 Pb P At Wt Fb Sn) (ih : ∀ m', m' < m → BringIs x posts A c X0 Pb P At Wt Fb Sn m') : BringIs x posts A c X0 Pb P At Wt Fb Sn m := by
  intro W at_ wt s seen hs hseen hm hw hS
  have HD := Lib.hid hd
  have HPO := Lib.hid hp
  have hn6 : x.sp.length ≤ 6 := hx.n6
  have hxn : x.n = x.sp.length := rfl
  have HIH := Lib.hid ih
  have HW := Lib.hid hw
  have HS0 := Lib.hid hS
  have HFL : Hid (∀ t, fromN x t < 64) := Lib.hid fun t => bits64 hx.n6 _
  have HFB : Hid (∀ i t, i < x.sp.length → (fromN x t).testBit i = frX x i t) := Lib.hid fun i t hi => by rw [fromN, bitsOf_bit]; simp [show i < x.n from hi]
  obtain ⟨d1, d2, d3, d4, d5, d6⟩ := hd
  rw [hxn] at hs
  have hs6 : s < 6 := by omega
  clear hx hp ih hw hS hxn
  have q0 : (0 : Int) ≤ (s : Int) := by omega
  have q1 : (s : Int) < 6 := by omega
  obtain ⟨c0, _⟩ := HS0.out.x0.at_ 0 _ rfl
  go_enter Try.func37, Try.ntmps37
  go_wp2_with (fail)
  clear c0
  go_loopw [15] (fun s15 wr => ∃ (i T : Nat), i ≤ x.sp.length ∧ s15 = I i ∧ T < 64 ∧ Hid (Frm W.heap.size (fun k => k = At ∨ k = Wt ∨ k = Sn) W wr) ∧ Hid (BrS wr x A c X0 Pb P At Wt Fb Sn at_ wt T) ∧ Hid (Inv1 x.n (frX x) at_ wt s seen i T)) (fun s _ => x.sp.length - (intOf s).toNat)
  case atStart => exact ⟨0, seen, by omega, rfl, hseen, Lib.hid (Frm.refl _ _ _), HS0, Lib.hid Inv1.start⟩
  case round =>
    clear HS0
    obtain ⟨i, T, hi, rfl, hT, HF, HS, HI⟩ := hrel
    have hzr := HF.out.size
    by_cases hlt : i < x.sp.length
    · have p0 : (0 : Int) ≤ (i : Int) := by omega
      have p1 : (i : Int) < (x.sp.length : Int) := by omega
      have p3 : (i : Int) ≤ 64 := by omega
      have p4 : (i : Int) < 6 := by omega
      have hi6 : i < 6 := by omega
      obtain ⟨c0, _⟩ := HS.out.x0.at_ 0 _ rfl
      obtain ⟨c1, _⟩ := HS.out.pb.at_ 0 _ rfl
      have c2 := HS.out.from_ s hs
      obtain ⟨c3, f3⟩ := HS.out.bsn.at_ 0 _ rfl
      obtain ⟨a0, fa0⟩ := HS.out.bat.at_ i _ (six_at _ hi6)
      obtain ⟨hb1, hb2⟩ := bit_step (k := i) (HFL.out s)
      obtain ⟨hb3, hb4⟩ := bit_step (k := i) hT
      have HFI := Lib.hid (HFB.out i s hlt)
      obtain ⟨hat, hws⟩ := went_bd HW.out HPO.out hlt hs
      generalize fromN x s = fs at *
      obtain ⟨bf, hbf⟩ : ∃ b, fs.testBit i = b := ⟨_, rfl⟩
      obtain ⟨bs, hbs⟩ : ∃ b, T.testBit i = b := ⟨_, rfl⟩
      rw [hbf] at hb2 HFI
      rw [hbs] at hb4
      have HBS := Lib.hid hbs
      generalize fs / 2 ^ i = sq at *
      obtain ⟨tq, htq⟩ : ∃ tq, T / 2 ^ i = tq := ⟨_, rfl⟩
      rw [htq] at hb3 hb4
      clear hbf hbs htq
      cases bf
      · simp only [if_false, Bool.false_eq_true] at hb2
        have HI1 := Lib.hid (HI.out.skip (.inl HFI.out.symm))
        go_wp2_with (fail)
        go_roundw
        case rel => first | exact ⟨i + 1, T, by omega, by go_num, hT, HF, HS, HI1⟩ | ((repeat apply Exists.intro); refine ⟨?_, rfl⟩; exact ⟨i + 1, T, by omega, by go_num, hT, HF, HS, HI1⟩)
        case measure => first | (simp [intOf]; done) | (simp [intOf]; omega)
      · simp only [if_true] at hb2
        cases bs
        · simp only [if_false, Bool.false_eq_true] at hb4
          go_wp2_with (fail)
          have hpl : (2 : Nat) ^ i < 64 := by
            have h2 : (2 : Nat) ^ i ≤ 2 ^ 5 := Nat.pow_le_pow_right (by decide) (by omega)
            omega
          have hor := or_two hT hpl
          have hTn : T ||| 2 ^ i < 64 := Nat.or_lt_two_pow (n := 6) hT hpl
          have HTS : Hid (∀ k, T.testBit k = true → (T ||| 2 ^ i).testBit k = true) := Lib.hid fun k hk => by rw [or_bit, hk]; rfl
          have HME : Hid ((T ||| 2 ^ i).testBit i = true) := Lib.hid (by rw [or_bit]; simp)
          have HMK : Hid (at_ i = 0 → Inv2 x.n (frX x) at_ wt s seen i 0 (T ||| 2 ^ i)) := Lib.hid HI.out.mark
          have HUN : Hid (unS x.n (T ||| 2 ^ i) < m) := Lib.hid (Nat.lt_of_lt_of_le (Nat.lt_of_lt_of_le (unS_lt HTS.out hlt HBS.out HME.out) (unS_le HI.out.sub)) hm)
          have HSN : Hid (∀ k, seen.testBit k = true → k ≠ i) := Lib.hid fun k hk e => by
            subst e
            have h1 := HI.out.sub k hk
            rw [HBS.out] at h1
            cases h1
          obtain ⟨pw, hpw⟩ : ∃ pw : Nat, 2 ^ i = pw := ⟨_, rfl⟩
          have hpi : ((2 : Int) ^ i) = (pw : Int) := by rw [← hpw]; push_cast; rfl
          rw [hpw] at hor hpl hTn HMK HUN HTS HME
          clear hpw
          have hwp : IntKind.i64.wrap (pw : Int) = (pw : Int) := IntWalk.i64_in _ (by omega)
          have hwp2 : wrap64 (pw : Int) = (pw : Int) := IntWalk.wrap64_in _ ⟨by omega, by omega⟩
          have HFRT := Lib.hid HFI.out.symm
          clear HI HFI
          generalize T ||| pw = Tn at *
          refine (wpIn_wide (n := 9)).1 ?_
          refine wpIn_region_plan (Plan.ons [0, 1, 2, 3, 4, 5, 6, 7] .fin) [] (fun _ => True) [] rfl (by kernel_rfl) (by kernel_rfl) (fun _ d _ _ _ h => by cases d <;> exact h) trivial ?_
          iterate 7 (refine ordQ_li rfl rfl rfl (fun K hK => ?_); go_simp; refine hK _ ?_; clear hK K)
          (refine ordQ_hv rfl rfl rfl (fun K hK => ?_); gi_wp2; refine hK _ _ (fun _ => trivial) ?_; clear hK K)
          refine ordQ_fin ?_
          have HS2 : Hid (BrS (wr.setCell ⟨Sn, 0, none⟩ (I (Tn : Nat))).drew x A c X0 Pb P At Wt Fb Sn at_ wt Tn) := Lib.hid (HS.out.setSn HD.out Tn).drew
          have HF2 : Hid (Frm W.heap.size (fun k => k = At ∨ k = Wt ∨ k = Sn) W (wr.setCell ⟨Sn, 0, none⟩ (I (Tn : Nat))).drew) := Lib.hid (HF.out.setCell (p := ⟨Sn, 0, none⟩) (.inr (.inr (.inr rfl))) _).drew
          have hz2 : (wr.setCell ⟨Sn, 0, none⟩ (I (Tn : Nat))).drew.heap.size = wr.heap.size := by simp
          clear HS HF c0 c1 c2 c3 f3 a0 fa0 hb1 hb2 hb3 hb4 hor
          generalize (wr.setCell ⟨Sn, 0, none⟩ (I (Tn : Nat))).drew = wb at *
          obtain ⟨a0, fa0⟩ := HS2.out.bat.at_ i _ (six_at _ hi6)
          by_cases hpos : 0 < at_ i
          · have hww : IntKind.i64.wrap (wt i s + 1) = wt i s + 1 := IntWalk.i64_in _ (by omega)
            have hwa : IntKind.i64.wrap (at_ i - 1) = at_ i - 1 := IntWalk.i64_in _ (by omega)
            have HS3 := Lib.hid (HS2.out.setAt HD.out i (at_ i - 1))
            have HF3 : Hid (Frm W.heap.size (fun k => k = At ∨ k = Wt ∨ k = Sn) W (wb.setCell ⟨At, i, none⟩ (I (at_ i - 1)))) := Lib.hid (HF2.out.setCell (p := ⟨At, i, none⟩) (.inr (.inl rfl)) _)
            obtain ⟨g0, gf0⟩ := HS3.out.bwt.at_ (i * 6 + s) _ (grid_at _ hi6 hs6)
            have HS4 := Lib.hid (HS3.out.setWt HD.out hi6 hs6 (wt i s + 1)).drew
            have HF4 : Hid (Frm W.heap.size (fun k => k = At ∨ k = Wt ∨ k = Sn) W ((wb.setCell ⟨At, i, none⟩ (I (at_ i - 1))).setCell ⟨Wt, i * 6 + s, none⟩ (I (wt i s + 1))).drew) := Lib.hid (HF3.out.setCell (p := ⟨Wt, i * 6 + s, none⟩) (.inr (.inr (.inl rfl))) _).drew
            have HG : Hid (Brought x.n (frX x) posts at_ wt s seen true (upd1 at_ i (at_ i - 1)) (upd2 wt i s (wt i s + 1)) Tn) := Lib.hid (by
              obtain ⟨g1, g2⟩ := HW.out.free_ (at' := upd1 at_ i (at_ i - 1)) (went' := upd2 wt i s (wt i s + 1)) hlt hs HFRT.out hpos (fun _ _ => rfl) (fun _ _ _ _ => rfl)
              exact ⟨g1, hTn, fun _ => ⟨g2, fun k hk => ⟨if_neg (HSN.out k hk), fun t => if_neg (fun h => HSN.out k hk h.1)⟩⟩, fun h => by cases h⟩)
            clear HMK
            go_wp2_with (fail)
            refine (wpIn_wide (n := 9)).1 ?_
            refine wpIn_region_plan (Plan.ons [0, 1, 2, 3, 4, 5, 6, 7, 8] .fin) [] (fun _ => True) [] rfl (by kernel_rfl) (by kernel_rfl) (fun _ d _ _ _ h => by cases d <;> exact h) trivial ?_
            iterate 8 (refine ordQ_li rfl rfl rfl (fun K hK => ?_); go_simp; refine hK _ ?_; clear hK K)
            (refine ordQ_hv rfl rfl rfl (fun K hK => ?_); gi_wp2; refine hK _ _ (fun _ => trivial) ?_; clear hK K)
            refine ordQ_fin ?_
            go_wp2_with (fail)
            refine bodyPost_ret (v := .bool true) (by simp [results, Try.results37, go_sem]) rfl ⟨true, _, _, Tn, rfl, HF4.out, HS4.out, HG.out⟩
          · have HZ := Lib.hid (HMK.out (by omega))
            obtain ⟨c0, _⟩ := HS2.out.x0.at_ 0 _ rfl
            go_wp2_with (fail)
            clear c0 a0 fa0
            go_loopw [64] (fun s64 wr => ∃ (o T2 : Nat), o ≤ x.sp.length ∧ s64 = I o ∧ T2 < 64 ∧ Hid (Frm W.heap.size (fun k => k = At ∨ k = Wt ∨ k = Sn) W wr) ∧ Hid (BrS wr x A c X0 Pb P At Wt Fb Sn at_ wt T2) ∧ Hid (Inv2 x.n (frX x) at_ wt s seen i o T2) ∧ Hid (unS x.n T2 < m)) (fun s _ => x.sp.length - (intOf s).toNat)
            case atStart => exact ⟨0, Tn, by omega, rfl, hTn, HF2, HS2, HZ, HUN⟩
            case round =>
              clear HF2 HS2 HZ HUN HMK HTS HME hz2 hTn
              obtain ⟨o, T2, ho, rfl, hT2, HF, HS, HI2, HU2⟩ := hrel
              have hzr := HF.out.size
              by_cases hlo : o < x.sp.length
              · have r0 : (0 : Int) ≤ (o : Int) := by omega
                have r1 : (o : Int) < (x.sp.length : Int) := by omega
                have r4 : (o : Int) < 6 := by omega
                have ho6 : o < 6 := by omega
                obtain ⟨hat2, hwo⟩ := went_bd HW.out HPO.out hlt hlo
                obtain ⟨g0, gf0⟩ := HS.out.bwt.at_ (i * 6 + o) _ (grid_at _ hi6 ho6)
                obtain ⟨b0, _⟩ := HS.out.fb.at_ 0 _ rfl
                by_cases hos : o = s
                · have HI3 := Lib.hid (HI2.out.skip (.inl hos))
                  have hso : s = o := hos.symm
                  clear hos
                  subst hso
                  go_wp2_with (fail)
                  go_roundw
                  case rel => first | exact ⟨s + 1, T2, by omega, by go_num, hT2, HF, HS, HI3, HU2⟩ | ((repeat apply Exists.intro); refine ⟨?_, rfl⟩; exact ⟨s + 1, T2, by omega, by go_num, hT2, HF, HS, HI3, HU2⟩)
                  case measure => first | (simp [intOf]; done) | (simp [intOf]; omega)
                · have eos : ((o : Int) != (s : Int)) = true := by simp; omega
                  have HOS := Lib.hid hos
                  by_cases hwp0 : 0 < wt i o
                  · have H37 := Lib.hid (HIH.out (unS x.n T2) HU2.out wr at_ wt o T2 hlo hT2 (Nat.le_refl _) HW.out HS.out)
                    clear hos
                    go_wp2_with (fail)
                    refine H37.out.mono ?_
                    rintro e w5 ⟨b, at', wt', U, rfl, hF5, hS5, hB5⟩
                    have HF5 : Hid (Frm W.heap.size (fun k => k = At ∨ k = Wt ∨ k = Sn) W w5) := Lib.hid (HF.out.trans (hF5.mono hzr fun _ _ h => h))
                    have HS5 := Lib.hid hS5
                    have HB5 := Lib.hid hB5
                    clear hF5 hS5 hB5
                    cases b
                    · obtain ⟨hae, hwe, hcl⟩ := HB5.out.no rfl
                      subst hae hwe
                      have HI3 := Lib.hid (HI2.out.rec_ hcl)
                      have HU3 : Hid (unS x.n U < m) := Lib.hid (Nat.lt_of_le_of_lt (unS_le hcl.sub) HU2.out)
                      have hU := HB5.out.lt
                      clear hcl
                      go_wp2_with (fail)
                      go_roundw
                      case rel => first | exact ⟨o + 1, U, by omega, by go_num, hU, HF5, HS5, HI3, HU3⟩ | ((repeat apply Exists.intro); refine ⟨?_, rfl⟩; exact ⟨o + 1, U, by omega, by go_num, hU, HF5, HS5, HI3, HU3⟩)
                      case measure => first | (simp [intOf]; done) | (simp [intOf]; omega)
                    · obtain ⟨hcol, hrow⟩ := HB5.out.yes rfl
                      obtain ⟨_, hri⟩ := hrow i HI2.out.me
                      have hbo := (went_bd HB5.out.went HPO.out hlt hlo).2
                      have hbs := (went_bd HB5.out.went HPO.out hlt hs).2
                      have hwio : 0 < wt' i o := by rw [hri o]; exact hwp0
                      have hw1 : IntKind.i64.wrap (wt' i o - 1) = wt' i o - 1 := IntWalk.i64_in _ (by omega)
                      have hw2 : IntKind.i64.wrap (wt' i s + 1) = wt' i s + 1 := IntWalk.i64_in _ (by omega)
                      have HG : Hid (Brought x.n (frX x) posts at_ wt s seen true at' (upd2 (upd2 wt' i o (wt' i o - 1)) i s (wt' i s + 1)) U) := Lib.hid (by
                        obtain ⟨g1, g2⟩ := HB5.out.went.turn (went' := upd2 (upd2 wt' i o (wt' i o - 1)) i s (wt' i s + 1)) hlt hlo hs HOS.out HFRT.out hwio (fun _ _ _ _ => rfl)
                        refine ⟨g1, HB5.out.lt, fun _ => ⟨fun t ht => ?_, fun k hk => ?_⟩, fun h => by cases h⟩
                        · rw [g2 t ht, hcol t ht]; omega
                        · obtain ⟨e1, e2⟩ := hrow k (HI2.out.sub k hk)
                          refine ⟨e1, fun t => ?_⟩
                          have hki := HSN.out k hk
                          unfold upd2
                          rw [if_neg (fun h => hki h.1), if_neg (fun h => hki h.1)]
                          exact e2 t)
                      have HS6 := Lib.hid (HS5.out.setWt HD.out hi6 ho6 (wt' i o - 1)).drew
                      have HF6 : Hid (Frm W.heap.size (fun k => k = At ∨ k = Wt ∨ k = Sn) W (w5.setCell ⟨Wt, i * 6 + o, none⟩ (I (wt' i o - 1))).drew) := Lib.hid (HF5.out.setCell (p := ⟨Wt, i * 6 + o, none⟩) (.inr (.inr (.inl rfl))) _).drew
                      obtain ⟨k0, kf0⟩ := HS5.out.bwt.at_ (i * 6 + o) _ (grid_at _ hi6 ho6)
                      have hus : upd2 wt' i o (wt' i o - 1) i s = wt' i s := if_neg (fun h => HOS.out h.2.symm)
                      obtain ⟨k1, kf1⟩ := HS6.out.bwt.at_ (i * 6 + s) _ (grid_at _ hi6 hs6)
                      rw [hus] at k1
                      have HS7 := Lib.hid (HS6.out.setWt HD.out hi6 hs6 (wt' i s + 1)).drew
                      have HF7 : Hid (Frm W.heap.size (fun k => k = At ∨ k = Wt ∨ k = Sn) W ((w5.setCell ⟨Wt, i * 6 + o, none⟩ (I (wt' i o - 1))).drew.setCell ⟨Wt, i * 6 + s, none⟩ (I (wt' i s + 1))).drew) := Lib.hid (HF6.out.setCell (p := ⟨Wt, i * 6 + s, none⟩) (.inr (.inr (.inl rfl))) _).drew
                      clear hcol hrow hri g0 gf0 b0 hus
                      go_wp2_with (fail)
                      refine (wpIn_wide (n := 9)).1 ?_
                      refine wpIn_region_plan (Plan.ons [0, 1, 2, 3, 4, 5, 6, 7, 8] .fin) [] (fun _ => True) [] rfl (by kernel_rfl) (by kernel_rfl) (fun _ d _ _ _ h => by cases d <;> exact h) trivial ?_
                      iterate 8 (refine ordQ_li rfl rfl rfl (fun K hK => ?_); go_simp; refine hK _ ?_; clear hK K)
                      (refine ordQ_hv rfl rfl rfl (fun K hK => ?_); gi_wp2; refine hK _ _ (fun _ => trivial) ?_; clear hK K)
                      refine ordQ_fin ?_
                      generalize (w5.setCell ⟨Wt, i * 6 + o, none⟩ (I (wt' i o - 1))).drew = w6 at *
                      go_wp2_with (fail)
                      refine (wpIn_wide (n := 9)).1 ?_
                      refine wpIn_region_plan (Plan.ons [0, 1, 2, 3, 4, 5, 6, 7, 8] .fin) [] (fun _ => True) [] rfl (by kernel_rfl) (by kernel_rfl) (fun _ d _ _ _ h => by cases d <;> exact h) trivial ?_
                      iterate 8 (refine ordQ_li rfl rfl rfl (fun K hK => ?_); go_simp; refine hK _ ?_; clear hK K)
                      (refine ordQ_hv rfl rfl rfl (fun K hK => ?_); gi_wp2; refine hK _ _ (fun _ => trivial) ?_; clear hK K)
                      refine ordQ_fin ?_
                      go_wp2_with (fail)
                      refine bodyPost_ret (v := .bool true) (by simp [results, Try.results37, go_sem]) rfl ⟨true, _, _, U, rfl, HF7.out, HS7.out, HG.out⟩
                  · have HI3 := Lib.hid (HI2.out.skip (.inr hwp0))
                    clear hos
                    go_wp2_with (fail)
                    go_roundw
                    case rel => first | exact ⟨o + 1, T2, by omega, by go_num, hT2, HF, HS, HI3, HU2⟩ | ((repeat apply Exists.intro); refine ⟨?_, rfl⟩; exact ⟨o + 1, T2, by omega, by go_num, hT2, HF, HS, HI3, HU2⟩)
                    case measure => first | (simp [intOf]; done) | (simp [intOf]; omega)
              · obtain rfl : o = x.sp.length := by omega
                have HI3 := Lib.hid (Inv2.done_ (n := x.n) HI2.out)
                go_wp2_with (fail)
                go_roundw
                case rel => first | exact ⟨i + 1, T2, by omega, by go_num, hT2, HF, HS, HI3⟩ | ((repeat apply Exists.intro); refine ⟨?_, rfl⟩; exact ⟨i + 1, T2, by omega, by go_num, hT2, HF, HS, HI3⟩)
                case measure => first | (simp [intOf]; done) | (simp [intOf]; omega)
        · simp only [if_true] at hb4
          have HI1 := Lib.hid (HI.out.skip (.inr HBS.out))
          go_wp2_with (fail)
          go_roundw
          case rel => first | exact ⟨i + 1, T, by omega, by go_num, hT, HF, HS, HI1⟩ | ((repeat apply Exists.intro); refine ⟨?_, rfl⟩; exact ⟨i + 1, T, by omega, by go_num, hT, HF, HS, HI1⟩)
          case measure => first | (simp [intOf]; done) | (simp [intOf]; omega)
    · obtain rfl : i = x.sp.length := by omega
      have HE := Lib.hid (Inv1.end_ (n := x.n) HI.out)
      go_wp2_with (fail)
      refine bodyPost_ret (v := .bool false) (by simp [results, Try.results37, go_sem]) rfl ⟨false, at_, wt, T, rfl, HF.out, HS.out, ⟨HW.out, hT, (fun h => by cases h), fun _ => ⟨rfl, rfl, HE.out⟩⟩⟩
theorem bring_is (x : Prk) (posts : Nat → Int) (A : Option Addr) (c X0 Pb P At Wt Fb Sn : Nat) (hx : PrkOk x) (hp : ∀ i, i < x.n → posts i ≤ 12) (hd : BrD X0 Pb P At Wt Fb Sn) : ∀ m, BringIs x posts A c X0 Pb P At Wt Fb Sn m := fun m => by
  induction m using Nat.strongRecOn with
  | _ m ih => exact bring37 x posts A c X0 Pb P At Wt Fb Sn m hx hp hd ih
end Go.Proofs.Ytfebhofihioaoaa
