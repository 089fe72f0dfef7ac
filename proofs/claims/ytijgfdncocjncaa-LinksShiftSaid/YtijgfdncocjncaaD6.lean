/- The document's sources. -/
import Derived.Test.YtijgfdncocjncaaD5
namespace Go.Proofs.Ytijgfdncocjncaa
set_option linter.unusedVariables false
set_option linter.unusedSimpArgs false
open Go Go.RowKit

def srcI (x : Wat) (t k : Nat) : List Int := (srcTo x t k).map fun i : Nat => (i : Int)
theorem srcI_yes {x : Wat} {t k : Nat} (h1 : k ≠ t) (h2 : ref x k t = none) : srcI x t (k + 1) = srcI x t k ++ [(k : Int)] := by
  unfold srcI
  rw [srcTo_succ]
  simp [h1, h2]
theorem srcI_no {x : Wat} {t k : Nat} (h : k = t ∨ ref x k t ≠ none) : srcI x t (k + 1) = srcI x t k := by
  unfold srcI
  rw [srcTo_succ]
  have e : (k != t && (ref x k t).isNone) = false := by
    rcases h with rfl | h
    · simp
    · cases h2 : ref x k t with
      | none => exact absurd h2 h
      | some a => simp
  rw [e]
  simp
theorem srcI_len (x : Wat) (t k : Nat) : (srcI x t k).length ≤ k := by
  unfold srcI srcTo
  rw [List.length_map]
  have := List.length_filter_le (fun f => f != t && (ref x f t).isNone) (List.range k)
  simpa using this
set_option maxRecDepth 100000 in
set_option maxHeartbeats 8000000 in
theorem sources35 (x : Wat) (A B : Option Addr) (c d : Nat) (t : Nat) (w : World) (hx : WatOk x) (hW : WatAt w x A B) (ht : t < x.hb.length) :
    Calls Try.prog 35 #[x.val A c B d, I t] w fun e w' => ∃ A' c', e = .returned (.slice A' (srcs x t).length c') ∧ Ints w' w'.heap.size A' ((srcs x t).map fun i : Nat => (i : Int)) ∧ Below w.heap.size w w' := by
  have hn6 : x.hb.length ≤ 6 := hx.n6
  obtain ⟨i0, hi0, hi1, hi2, hi3⟩ := info_parts info3
  have H32 : Hid (∀ (W : World) (f : Nat), Below w.heap.size w W → Calls Try.prog 32 #[x.val A c B d, .agg #[I f, I t]] W fun e w' => e = .returned (I (optI (ref x f t))) ∧ Below W.heap.size W w') := Lib.hid fun W f h => refuted32 x A B c d f t W hx (hW.below h) ht
  have HSY := Lib.hid fun k => @srcI_yes x t k
  have HSN := Lib.hid fun k => @srcI_no x t k
  have HSL := Lib.hid fun k => srcI_len x t k
  have HSE : Hid (srcI x t x.hb.length = (srcs x t).map fun i : Nat => (i : Int)) := Lib.hid rfl
  have HSM : Hid ((srcs x t).length = (srcI x t x.hb.length).length) := Lib.hid (by rw [HSE.out, List.length_map])
  rw [← HSE.out, HSM.out]
  clear hx hW HSE HSM
  have HB0 : Hid (Below w.heap.size w (w.alloc (.cells #[.slice A x.hb.length c, .slice B x.er.length d, I x.en] 25))) := Lib.hid (by (repeat' (first | assumption | exact Below.refl _ _ | refine Below.drew ?_ | refine below_drewN ?_ _ | refine Below.setCell ?_ (by first | omega | (simp; done) | (simp; omega)) _ | refine Below.alloc ?_ (by first | omega | (simp; done) | (simp; omega)) _ | refine Below.trans ?_ (Below.mono (by assumption) (by first | omega | (simp; done) | (simp; omega))))))
  have HX0 : Hid (Box (w.alloc (.cells #[.slice A x.hb.length c, .slice B x.er.length d, I x.en] 25)) w.heap.size [.slice A x.hb.length c, .slice B x.er.length d, I x.en]) := Lib.hid (Box.new w [.slice A x.hb.length c, .slice B x.er.length d, I x.en] 25)
  have HZ0 : Hid ((w.alloc (.cells #[.slice A x.hb.length c, .slice B x.er.length d, I x.en] 25)).heap.size = w.heap.size + 1) := Lib.hid (by simp)
  unfold Wat.val at H32 ⊢
  go_enter Try.func35, Try.ntmps35
  go_wp2_with (fail)
  generalize w.alloc (.cells #[.slice A x.hb.length c, .slice B x.er.length d, I x.en] 25) = wa at *
  have hza := HZ0.out
  go_loopw [5, 6] (fun s5 s6 wr => ∃ k : Nat, k ≤ x.hb.length ∧ s6 = I k ∧ Below wa.heap.size wa wr ∧ Hid (wr.ownsRow wa.heap.size 3 1 s5 (srcI x t k).length ((srcI x t k).map I))) (fun _ s _ => x.hb.length - (intOf s).toNat)
  case atStart => exact ⟨0, by omega, rfl, Below.refl _ _, Lib.hid (World.ownsRow_nil _ _ _ _)⟩
  case round =>
    obtain ⟨k, hk, rfl, hB, HO⟩ := hrel
    have hzr := hB.size
    have hbx := HX0.out.call hB
    obtain ⟨c0, _⟩ := hbx.at_ 0 _ rfl
    have hX1 : w.heap.size < wr.heap.size := by omega
    by_cases hlt : k < x.hb.length
    · have p0 : (0 : Int) ≤ (k : Int) := by omega
      have p1 : (k : Int) < (x.hb.length : Int) := by omega
      have HB5 : Hid (Below wa.heap.size wa (wr.alloc (.cells #[I k, I t] 27))) := Lib.hid (hB.alloc hzr _)
      have HBw5 : Hid (Below w.heap.size w (wr.alloc (.cells #[I k, I t] 27))) := Lib.hid (HB0.out.trans (HB5.out.mono (by omega)))
      have HX5 : Hid (Box (wr.alloc (.cells #[I k, I t] 27)) w.heap.size [.slice A x.hb.length c, .slice B x.er.length d, I x.en]) := Lib.hid (hbx.alloc _)
      have HL5 : Hid (Box (wr.alloc (.cells #[I k, I t] 27)) wr.heap.size [I k, I t]) := Lib.hid (Box.new wr [I k, I t] 27)
      have HZ5 : Hid ((wr.alloc (.cells #[I k, I t] 27)).heap.size = wr.heap.size + 1) := Lib.hid (by simp)
      have HO5 := Lib.hid (HO.out.alloc (.cells #[I k, I t] 27))
      have hs5 := HO.out.lt
      have H32k := Lib.hid (H32.out _ k HBw5.out)
      have HSYk := Lib.hid (HSY.out k)
      have HSNk := Lib.hid (HSN.out k)
      have hsl := HSL.out k
      obtain ⟨x0_, _⟩ := HX5.out.at_ 0 _ rfl
      obtain ⟨x1_, _⟩ := HX5.out.at_ 1 _ rfl
      obtain ⟨x2_, _⟩ := HX5.out.at_ 2 _ rfl
      obtain ⟨l0, _⟩ := HL5.out.at_ 0 _ rfl
      obtain ⟨l1, _⟩ := HL5.out.at_ 1 _ rfl
      by_cases hkt : k = t
      · have HSS : Hid (srcI x t (k + 1) = srcI x t k) := Lib.hid (HSNk.out (.inl hkt))
        have hkb : ((k : Int) != (t : Int)) = false := by simp [hkt]
        have HO6 : Hid ((wr.alloc (.cells #[I k, I t] 27)).ownsRow wa.heap.size 3 1 u5 (srcI x t (k + 1)).length ((srcI x t (k + 1)).map I)) := Lib.hid (by rw [HSS.out]; exact HO5.out)
        clear HSYk HSNk HO5 HO hkt
        go_wp2_with (fail)
        go_roundw
        case rel => first | exact ⟨k + 1, by omega, by go_num, HB5.out, HO6⟩ | ((repeat apply Exists.intro); refine ⟨?_, rfl⟩; exact ⟨k + 1, by omega, by go_num, HB5.out, HO6⟩)
        case measure => first | (simp [intOf]; done) | (simp [intOf]; omega)
      · have hkb : ((k : Int) != (t : Int)) = true := by simp; omega
        cases hrf : ref x k t with
        | some a =>
          have HSS : Hid (srcI x t (k + 1) = srcI x t k) := Lib.hid (HSNk.out (.inr (by rw [hrf]; simp)))
          have HO6 := Lib.hid fun W (h : Below (wr.alloc (.cells #[I k, I t] 27)).heap.size (wr.alloc (.cells #[I k, I t] 27)) W) => (show W.ownsRow wa.heap.size 3 1 u5 (srcI x t (k + 1)).length ((srcI x t (k + 1)).map I) by rw [HSS.out]; exact grown_own HO5.out h)
          rw [hrf] at H32k
          dsimp only [optI] at H32k
          have hna : ¬ (a : Int) < 0 := by omega
          clear HSYk HSNk HO5 HO hkt hrf
          go_wp2_with (first | (go_at_call 32; refine H32k.out.mono ?_; rintro e w3 ⟨rfl, hB3⟩) | fail)
          go_roundw
          case rel => first | exact ⟨k + 1, by omega, by go_num, HB5.out.trans (hB3.mono HB5.out.size), Lib.hid (HO6.out _ hB3)⟩ | ((repeat apply Exists.intro); refine ⟨?_, rfl⟩; exact ⟨k + 1, by omega, by go_num, HB5.out.trans (hB3.mono HB5.out.size), Lib.hid (HO6.out _ hB3)⟩)
          case measure => first | (simp [intOf]; done) | (simp [intOf]; omega)
        | none =>
          have HSS : Hid (srcI x t (k + 1) = srcI x t k ++ [(k : Int)]) := Lib.hid (HSYk.out hkt hrf)
          rw [hrf] at H32k
          dsimp only [optI] at H32k
          have HSF : Hid ((srcI x t (k + 1)).map I = (srcI x t k).map I ++ [I k]) := Lib.hid (by rw [HSS.out]; simp)
          have HSG : Hid ((srcI x t (k + 1)).length = (srcI x t k).length + 1) := Lib.hid (by rw [HSS.out]; simp)
          clear HSYk HSNk HO hkt hrf HSS
          generalize (srcI x t k).map I = xs0 at *
          generalize (srcI x t k).length = n0 at *
          go_wp2_with (first
            | (go_at_call 32; refine H32k.out.mono ?_; rintro e w3 ⟨rfl, hB3⟩; have HO3 := Lib.hid ((grown_own HO5.out hB3).alloc (.cells #[I k] 3)); have HB3 : Hid (Below wa.heap.size wa w3) := Lib.hid (HB5.out.trans (hB3.mono HB5.out.size)); have hz3 := HB3.out.size)
            | (at_builtin; refine wpList_append_own _ rfl _ _ 33 rfl wa.heap.size 3 i0 (.int .i64 0) 1 8 Try.underlying33 hi0 hi1 hi2 hi3 rfl (by decide) _ _ _ rfl HO3.out ⟨w3.heap.size, 0, none⟩ 1 1 [I k] rfl rfl (cell_one3 w3 (I k) 3) (by simp [Value.oneCell']) (by unfold maxLen; omega) (by omega) (by simp; omega) ?_; intro v' w6 hown6 hg6 _)
            | fail)
          have HB6 : Hid (Below wa.heap.size wa w6) := Lib.hid ((HB3.out.alloc hz3 _).grown hg6 (by simp; omega) (fun g e => (hs5 g e).1))
          have HO6 : Hid (w6.ownsRow wa.heap.size 3 1 v' (srcI x t (k + 1)).length ((srcI x t (k + 1)).map I)) := Lib.hid (by rw [HSF.out, HSG.out]; exact hown6)
          clear hown6 hg6 HO3 HO5 HSF HSG
          go_wp2_with (fail)
          go_roundw
          case rel => first | exact ⟨k + 1, by omega, by go_num, HB6.out, HO6⟩ | ((repeat apply Exists.intro); refine ⟨?_, rfl⟩; exact ⟨k + 1, by omega, by go_num, HB6.out, HO6⟩)
          case measure => first | (simp [intOf]; done) | (simp [intOf]; omega)
    · obtain rfl : k = x.hb.length := by omega
      obtain ⟨A', c', hv, hT⟩ := ints_ownN HO.out rfl
      subst hv
      have HT := Lib.hid hT
      have HBF : Hid (Below w.heap.size w wr) := Lib.hid (HB0.out.trans (hB.mono (by omega)))
      clear HO hT
      go_wp2_with (fail)
      refine bodyPost_ret (v := .slice A' (srcI x t x.hb.length).length c') (by simp [results, Try.results35, go_sem]) rfl ⟨A', c', rfl, HT.out, HBF.out⟩
end Go.Proofs.Ytijgfdncocjncaa
