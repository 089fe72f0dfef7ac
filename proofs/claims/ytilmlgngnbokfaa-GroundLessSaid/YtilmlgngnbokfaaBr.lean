/- breaks. -/
import Derived.Test.YtilmlgngnbokfaaF2
import Derived.WalkMore
namespace Go.Proofs.Ytilmlgngnbokfaa
set_option linter.unusedVariables false
set_option linter.unusedSimpArgs false
open Go.RowKit

/-- What the ice under post i bears. -/
def iceOf (d : Deck) (cr : List (Int × Int)) (firm : Int) (i : Nat) : Int :=
  let t := (cr.getD (d.posts.getD i 0).toNat (0, 0)).1
  firm * t * t
def brk (d : Deck) (cr : List (Int × Int)) (firm : Int) (i : Nat) : Bool := decide (iceOf d cr firm i * presC d i < presN d i)
/-- The first post that may break in, or -1. -/
def brkI (d : Deck) (cr : List (Int × Int)) (firm : Int) : Int := idxI (brk d cr firm) (List.range d.posts.length)

theorem pres_bd {d : Deck} {cells : Int} (h : d.ok cells) (i : Nat) (hi : i < d.posts.length) : 0 < presC d i ∧ presC d i ≤ 80000 ∧ 0 ≤ presN d i ∧ presN d i ≤ 90000 * presC d i := by
  obtain ⟨hl, hr⟩ := beam_bd h i
  obtain ⟨o1, o2, o3, _, _, o4, o5, o6, o7⟩ := h
  have h1 := comU_bd hl hr
  have h2 := best_bd (pe := d.persons) hl hr o5 o6 o7 (min d.apart (max (leftOf d.lengths i) (rightOf d.lengths i) + 1)).toNat (by omega)
  have h3 := half_bd hl hr o4
  refine ⟨h1.1, h1.2, ?_, ?_⟩
  · show 0 ≤ bestU _ _ _ _ _ _ + halfU _ _ _
    omega
  · show bestU _ _ _ _ _ _ + halfU _ _ _ ≤ 90000 * comU _ _
    omega
theorem pres_rep {d : Deck} {cells : Int} (h : d.ok cells) (i : Nat) (hi : i < d.posts.length) : Rep (presC d i) (pres d i) (presN d i) := by
  obtain ⟨h1, h2, h3, h4⟩ := pres_bd h i hi
  exact low_rep h3 (by omega) h1 rfl

set_option maxRecDepth 100000 in
set_option maxHeartbeats 2000000 in
theorem breaks_any (fb gg cap : Nat) (firm : Int) (cr : List (Int × Int)) (Ap Al : Option Addr) (cp cl : Nat) (d : Deck) (w : World) (hfb : fb < w.heap.size) (hgg : gg < w.heap.size)
   (hF : FieldAt w fb firm gg cap cr Ap Al cp cl d) (hC : Crust2 w gg cr) (hcr : cr.length ≤ 400) (hcap : cr.length ≤ cap ∧ cap ≤ 9223372036854775807) (hlo : ∀ k (h : k < cr.length), 0 ≤ cr[k].1 ∧ cr[k].1 ≤ 500) (hfirm : 1 ≤ firm ∧ firm ≤ 100)
   (hp : Ints w w.heap.size Ap d.posts) (hb : Ints w w.heap.size Al d.lengths) (hd : d.ok cr.length) :
    Calls Try.prog 49 #[.pointer (some ⟨fb, 0, none⟩)] w fun e w' => Below w.heap.size w w' ∧
      ((brkI d cr firm < 0 ∧ e = .returned (.tuple #[I 0, .bool false])) ∨ (0 ≤ brkI d cr firm ∧ e = .returned (.tuple #[I (brkI d cr firm), .bool true]))) := by
  have hPost : ∀ k, k < d.posts.length → ∀ W, Below w.heap.size w W → 
      Calls Try.prog 39 #[.pointer (some ⟨fb, 2, none⟩), I k] W fun e w' => e = .returned (.agg #[.pointer (some ⟨fb, 2, none⟩), I (leftOf d.lengths k), I (rightOf d.lengths k)]) ∧ Below W.heap.size W w' :=
    fun k hk W hB => postOf_any fb 2 Al cl d.lengths k W (by have := hB.size; omega) ((hB.cell (p := ⟨fb, _, none⟩) hfb).trans hF.2.2.2.1) ((hb.below hB).more hB.size) (by have := hd.2.1; have := hd.2.2.1; omega) (by have := hd.2.2.1; omega)
  have hLoad : ∀ k, k < d.posts.length → ∀ W, Below w.heap.size w W →
      Calls Try.prog 40 #[.agg #[.pointer (some ⟨fb, 2, none⟩), I (leftOf d.lengths k), I (rightOf d.lengths k)]] W fun e w' => e = .returned (Rat2 (pres d k).1 (pres d k).2) ∧ Below W.heap.size W w' :=
    fun k hk W hB => load_any fb 2 _ _ _ _ _ _ W (by have := hB.size; omega) (beam_bd hd k).1 (beam_bd hd k).2 hd.2.2.2.2.2.1 hd.2.2.2.2.2.2.1 hd.2.2.2.2.2.2.2.1 hd.2.2.2.2.2.2.2.2
      ((hB.cell (p := ⟨fb, _, none⟩) hfb).trans hF.2.2.2.2.1) ((hB.cell (p := ⟨fb, _, none⟩) hfb).trans hF.2.2.2.2.2.1) ((hB.cell (p := ⟨fb, _, none⟩) hfb).trans hF.2.2.2.2.2.2.1) ((hB.cell (p := ⟨fb, _, none⟩) hfb).trans hF.2.2.2.2.2.2.2)
  obtain ⟨f0, f1, f2, _⟩ := hF
  have HPo := Lib.hid hPost
  have HLo := Lib.hid hLoad
  have HF0 := Lib.hid f0
  have HF1 := Lib.hid f1
  have HD := Lib.hid hd
  have HLO := Lib.hid hlo
  have hpl : d.posts.length ≤ 24 := hd.2.1
  have HPS := Lib.hid hd.2.2.2.1
  clear hPost hLoad hb hd hlo
  go_enter Try.func49, Try.ntmps49
  go_wp2
  go_step3
  go_wp2
  go_step3
  go_wp2
  go_loopw [13] (fun s wr => ∃ k : Nat, k ≤ d.posts.length ∧ s = I k ∧ Below w.heap.size w wr ∧ Hid (∀ j, j < k → brk d cr firm j = false)) (fun s _ => d.posts.length - (intOf s).toNat)
  case atStart => exact ⟨0, Nat.zero_le _, rfl, Below.refl _ _, Lib.hid fun j h => by omega⟩
  case round =>
    obtain ⟨k, hk, rfl, hB, hall⟩ := hrel
    by_cases hlt : k < d.posts.length
    · obtain ⟨bp, offp, rfl, hbp, hcp⟩ := (hp.below hB) (by omega)
      have hcell := hcp k hlt
      have hin := HPS.out k hlt
      have hpk : d.posts.getD k 0 = d.posts[k] := by simp [List.getD, hlt]
      clear hcp
      have g0 := (hB.cell (p := ⟨fb, 0, none⟩) hfb).trans HF0.out
      have g1 := (hB.cell (p := ⟨fb, 1, none⟩) hfb).trans HF1.out
      generalize hx : d.posts[k] = x at *
      obtain ⟨ci, rfl⟩ := Int.eq_ofNat_of_zero_le hin.1
      have hci : ci < cr.length := by omega
      have hc1 := (hB.cell (p := ⟨gg, ci * 2, none⟩) hgg).trans (hC ci hci).1
      have hlo := HLO.out ci hci
      have hice : iceOf d cr firm k = firm * cr[ci].1 * cr[ci].1 := by unfold iceOf; rw [hpk]; simp [List.getD, hci]
      generalize cr[ci].1 = t at hc1 hlo hice
      have hrep := pres_rep HD.out k hlt
      obtain ⟨v1, v2, v3, v4⟩ := pres_bd HD.out k hlt
      have hbk : brk d cr firm k = decide (firm * t * t * presC d k < presN d k) := by unfold brk; rw [hice]
      have m1 := mul_bd (show 0 ≤ firm by omega) (show firm ≤ 100 by omega) hlo.1 hlo.2
      have m2 := mul_bd m1.1 m1.2 hlo.1 hlo.2
      have hpd := rep_den_le v1 (show Rep (presC d k) ((pres d k).1, (pres d k).2) (presN d k) from hrep)
      have hpn := rep_le (M := 90000) v1 (show Rep (presC d k) ((pres d k).1, (pres d k).2) (presN d k) from hrep) v4
      have hPo := HPo.out k hlt
      have hLo := HLo.out k hlt
      generalize leftOf d.lengths k = l at hPo hLo
      generalize rightOf d.lengths k = r at hPo hLo
      generalize pres d k = pr at *
      obtain ⟨p1, p2⟩ := pr
      simp only at hpd hpn hLo
      have hp0 : 0 ≤ p1 ∧ 1 ≤ p2 := ⟨hrep.1, hrep.2.1⟩
      have m3 := mul_bd m2.1 m2.2 (show 0 ≤ p2 by omega) (show p2 ≤ 80000 by omega)
      have hrep2 : Rep (presC d k) (firm * t * t, 1) (firm * t * t * presC d k) := ⟨m2.1, by simp, ⟨presC d k, by simp⟩, by simp⟩
      have hcmp := fun W => compare_any p1 p2 (firm * t * t) 1 W (by simp; omega) (by simp; omega) m3.1 (by omega)
      rw [cmp_rep v1 hrep hrep2] at hcmp
      have hw1 : IntKind.i64.wrap (firm * t) = firm * t := IntWalk.i64_in _ (by omega)
      have hw2 : IntKind.i64.wrap (firm * t * t) = firm * t * t := IntWalk.i64_in _ (by omega)
      have hci2 : (brk d cr firm k = true ∧ cmpI (presN d k) (firm * t * t * presC d k) = 1) ∨ (brk d cr firm k = false ∧ cmpI (presN d k) (firm * t * t * presC d k) ≤ 0) := by
        rw [hbk]
        unfold cmpI
        by_cases h1 : presN d k < firm * t * t * presC d k
        · rw [if_pos h1]; right; simp; omega
        · rw [if_neg h1]
          by_cases h2 : firm * t * t * presC d k < presN d k
          · rw [if_pos h2]; left; simp; omega
          · rw [if_neg h2]; right; simp; omega
      generalize cmpI (presN d k) (firm * t * t * presC d k) = c at hcmp hci2
      have HCM := Lib.hid hcmp
      have HPO := Lib.hid hPo
      have HLD := Lib.hid hLo
      clear hcmp hPo hLo hrep hrep2 hbk hice hx hpk m1 m2 m3 hpn hpd hin
      go_wp2
      refine (wpIn_wide (n := 9)).1 ?_
      refine wpIn_region_plan (Plan.ons [0, 1, 2, 3, 6, 7, 8, 9, 10, 11, 12, 13, 14, 4, 5, 15, 16] .fin) [6, 7, 8, 9, 10, 11, 12, 13, 14]
        (fun W' => W'.cell? ⟨fb, 0, none⟩ = some (I firm))
        [] rfl (by kernel_rfl) (by kernel_rfl) (fun _ d _ _ _ h => by cases d <;> exact h) g0 ?_
      iterate 4 (refine ordQ_li rfl rfl rfl (fun K hK => ?_); go_simp; refine hK _ ?_; clear hK K)
      (refine ordQ_held (.pointer (some ⟨fb, 0, none⟩)) rfl rfl rfl rfl (fun W' hC' => ?_) (fun K hK => ?_); (focus (obtain p1 := hC'; go_simp; try exact ⟨rfl, rfl⟩)); go_simp; refine hK _ ?_; clear hK K)
      (refine ordQ_held (.pointer (some ⟨fb, 0, none⟩)) rfl rfl rfl rfl (fun W' hC' => ?_) (fun K hK => ?_); (focus (obtain p1 := hC'; go_simp; try exact ⟨rfl, rfl⟩)); go_simp; refine hK _ ?_; clear hK K)
      (refine ordQ_held (.pointer (some ⟨fb, 0, none⟩)) rfl rfl rfl rfl (fun W' hC' => ?_) (fun K hK => ?_); (focus (obtain p1 := hC'; go_simp; try exact ⟨rfl, rfl⟩)); go_simp; refine hK _ ?_; clear hK K)
      (refine ordQ_held (I firm) rfl rfl rfl rfl (fun W' hC' => ?_) (fun K hK => ?_); (focus (obtain p1 := hC'; go_simp; try exact ⟨rfl, rfl⟩)); go_simp; refine hK _ ?_; clear hK K)
      (refine ordQ_held (I t) rfl rfl rfl rfl (fun W' hC' => ?_) (fun K hK => ?_); (focus (obtain p1 := hC'; go_simp; try exact ⟨rfl, rfl⟩)); go_simp; refine hK _ ?_; clear hK K)
      (refine ordQ_held (I (firm * t)) rfl rfl rfl rfl (fun W' hC' => ?_) (fun K hK => ?_); (focus (obtain p1 := hC'; go_simp; try exact ⟨rfl, rfl⟩)); go_simp; refine hK _ ?_; clear hK K)
      (refine ordQ_held (I t) rfl rfl rfl rfl (fun W' hC' => ?_) (fun K hK => ?_); (focus (obtain p1 := hC'; go_simp; try exact ⟨rfl, rfl⟩)); go_simp; refine hK _ ?_; clear hK K)
      (refine ordQ_held (I (firm * t * t)) rfl rfl rfl rfl (fun W' hC' => ?_) (fun K hK => ?_); (focus (obtain p1 := hC'; go_simp; try exact ⟨rfl, rfl⟩)); go_simp; refine hK _ ?_; clear hK K)
      (refine ordQ_held (Rat2 (firm * t * t) 1) rfl rfl rfl rfl (fun W' hC' => ?_) (fun K hK => ?_); (focus (obtain p1 := hC'; go_simp; try exact ⟨rfl, rfl⟩)); go_simp; refine hK _ ?_; clear hK K)
      have hBd : Below w.heap.size w wr.drew := hB.drew
      refine ordQ_hv rfl rfl rfl (fun K hK => ?_)
      gi_wp2_with (refine And.intro trivial ?_; gi_at_call 39; refine callsIn_wide.2 ((HPO.out _ hBd).mono ?_); rintro e w2 ⟨rfl, hB2⟩)
      have hb2 := below_call hBd hB2
      refine hK _ _ (fun _ => (hb2.cell (p := ⟨fb, 0, none⟩) hfb).trans HF0.out) ?_
      clear hK K
      refine ordQ_hv rfl rfl rfl (fun K hK => ?_)
      gi_wp2_with (refine And.intro trivial ?_; gi_at_call 40; refine callsIn_wide.2 ((HLD.out _ hb2).mono ?_); rintro e w3 ⟨rfl, hB3⟩)
      have hb3 := below_call hb2 hB3
      refine hK _ _ (fun _ => (hb3.cell (p := ⟨fb, 0, none⟩) hfb).trans HF0.out) ?_
      clear hK K
      refine ordQ_hv rfl rfl rfl (fun K hK => ?_)
      gi_wp2_with (refine And.intro trivial ?_; gi_at_call 64; refine callsIn_wide.2 ((HCM.out _).mono ?_); rintro e w4 ⟨rfl, hB4⟩)
      have hb4 := below_call hb3 hB4
      refine hK _ _ (fun _ => (hb4.cell (p := ⟨fb, 0, none⟩) hfb).trans HF0.out) ?_
      clear hK K
      (refine ordQ_li rfl rfl rfl (fun K hK => ?_); go_simp; refine hK _ ?_; clear hK K)
      refine ordQ_fin ?_
      rcases hci2 with ⟨hbt, rfl⟩ | ⟨hbf, hc0⟩
      · have HBT := Lib.hid hbt
        clear hbt
        go_wp2
        rw [Exit.noGoto_ret]
        have hidx : brkI d cr firm = k := by
          unfold brkI
          refine idxI_hit (by simpa using hlt) (by simpa using HBT.out) (fun j h hj => by simpa using hall.out j hj)
        refine bodyPost_ret (v := .tuple #[I k, .bool true]) (by simp [results, Try.results49, go_sem]) rfl ⟨hb4, .inr ⟨by rw [hidx]; omega, by rw [hidx]⟩⟩
      · have HBF := Lib.hid hbf
        clear hbf
        go_wp2
        go_roundw
        case rel => exact ⟨k + 1, by omega, rfl, hb4, Lib.hid fun j hj => by
          rcases Nat.lt_succ_iff_lt_or_eq.1 hj with h1 | rfl
          · exact hall.out j h1
          · exact HBF.out⟩
        case measure => simp [intOf]; omega
    · have hidx : brkI d cr firm = -1 := by
        unfold brkI
        exact idxI_miss (fun j h => by simpa using hall.out j (by simp at h; omega))
      have HI := Lib.hid hidx
      clear hidx
      go_wp2
      rw [Exit.noGoto_ret]
      refine bodyPost_ret (v := .tuple #[I 0, .bool false]) (by simp [results, Try.results49, go_sem]) rfl ⟨hB, .inl ⟨by rw [HI.out]; omega, rfl⟩⟩
end Go.Proofs.Ytilmlgngnbokfaa
