/- Is there more in a park than a statement looks at? -/
import Derived.Test.YtfebhofihioaoaaO12
namespace Go.Proofs.Ytfebhofihioaoaa
set_option linter.unusedVariables false
set_option linter.unusedSimpArgs false
open Go Go.RowKit

set_option maxRecDepth 100000 in
set_option maxHeartbeats 2000000 in
theorem busy9 (x : Prk) (A : Option Addr) (c : Nat) (w : World) (hA : Fours w w.heap.size A x.sp) (hx : Prk64 x) : Calls Try.prog 9 #[x.val A c] w fun e w' => ∃ b : Bool, e = .returned (.bool b) ∧ Below w.heap.size w w' := by
  have HA := Lib.hid hA
  have HX := Lib.hid hx
  have hxl := hx.len
  clear hA hx
  simp only [Prk.val]
  generalize x.alo = al at *
  generalize x.ahi = ah at *
  have HCP : Hid (∀ W, Below (w.heap.size + 1) (w.alloc (.cells #[.slice A x.sp.length c, I al, I ah] 26)) W → W.cell? ⟨w.heap.size, 0, none⟩ = some (.slice A x.sp.length c) ∧ Below w.heap.size w W) := Lib.hid fun W hW =>
    ⟨(hW.cell (p := ⟨_, _, none⟩) (by simp)).trans (by simp [go_sem]), (below1 w _).trans (hW.mono (by omega))⟩
  have hsz : (w.alloc (.cells #[.slice A x.sp.length c, I al, I ah] 26)).heap.size = w.heap.size + 1 := by simp
  have hbz : Below w.heap.size w (w.alloc (.cells #[.slice A x.sp.length c, I al, I ah] 26)) := below1 _ _
  by_cases h8 : 8 < x.sp.length
  · go_enter Try.func9, Try.ntmps9
    go_wp2_with (fail)
    refine bodyPost_ret (v := .bool true) (by simp [results, Try.results9, go_sem]) rfl ⟨true, rfl, hbz⟩
  · go_enter Try.func9, Try.ntmps9
    go_wp2_with (fail)
    generalize hwz0 : w.alloc (.cells #[.slice A x.sp.length c, I al, I ah] 26) = wa at *
    clear hwz0
    go_loopw [3] (fun s3 wr => ∃ k : Nat, k ≤ x.sp.length ∧ s3 = I k ∧ Below (w.heap.size + 1) wa wr) (fun s _ => x.sp.length - (intOf s).toNat)
    case atStart => exact ⟨0, by omega, rfl, Below.refl _ _⟩
    case round =>
      obtain ⟨k, hk, rfl, hB⟩ := hrel
      obtain ⟨c0, hBw⟩ := HCP.out _ hB
      have hzr := hB.size
      by_cases hlt : k < x.sp.length
      · obtain ⟨ab, ao, hAe, haz, hac⟩ := (HA.out.below hBw) (by omega)
        subst hAe
        obtain ⟨a0, a1, a2, a3⟩ := hac k hlt
        clear hac
        obtain ⟨⟨w0, w1⟩, ⟨w2, w3⟩, ⟨w4, w5⟩, _⟩ := HX.out.sp k hlt
        generalize x.sp[k].1 = lo at *
        generalize x.sp[k].2.1 = hi at *
        generalize x.sp[k].2.2.1 = ho at *
        generalize x.sp[k].2.2.2 = ne at *
        have p0 : (0 : Int) ≤ (k : Int) := by omega
        have p1 : (k : Int) < (x.sp.length : Int) := by omega
        have hB2 : Below (w.heap.size + 1) wa (wr.alloc (.cells #[I lo, I hi, I ho, I ne] 48)) := hB.alloc (by omega) _
        have hB3 := (HCP.out _ hB2).2
        by_cases h1 : 0 < ho
        · by_cases h2 : 0 ≤ lo
          · by_cases h3 : lo ≤ hi
            · have hsub : IntKind.i64.wrap (hi - lo) = hi - lo := IntWalk.i64_in _ (by omega)
              have htd : (hi - lo).tdiv ho = (hi - lo) / ho := Int.tdiv_eq_ediv_of_nonneg (by omega)
              have hq0 : 0 ≤ (hi - lo) / ho := Int.ediv_nonneg (by omega) (by omega)
              have hq1 : (hi - lo) / ho ≤ hi - lo := Int.ediv_le_self _ (by omega)
              have hne : ¬ ho = 0 := by omega
              obtain ⟨dq, hdq⟩ : ∃ dq, (hi - lo) / ho = dq := ⟨_, rfl⟩
              rw [hdq] at htd hq0 hq1
              have hwq : IntKind.i64.wrap dq = dq := IntWalk.i64_in _ (by omega)
              clear hdq
              by_cases h4 : 100 < dq
              · go_wp2_with (fail)
                refine bodyPost_ret (v := .bool true) (by simp [results, Try.results9, go_sem]) rfl ⟨true, rfl, hB3⟩
              · go_wp2_with (fail)
                go_roundw
                case rel => first | exact ⟨k + 1, by omega, by go_num, hB2⟩ | ((repeat apply Exists.intro); refine ⟨?_, rfl⟩; exact ⟨k + 1, by omega, by go_num, hB2⟩)
                case measure => first | (simp [intOf]; done) | (simp [intOf]; omega)
            · go_wp2_with (fail)
              go_roundw
              case rel => first | exact ⟨k + 1, by omega, by go_num, hB2⟩ | ((repeat apply Exists.intro); refine ⟨?_, rfl⟩; exact ⟨k + 1, by omega, by go_num, hB2⟩)
              case measure => first | (simp [intOf]; done) | (simp [intOf]; omega)
          · go_wp2_with (fail)
            go_roundw
            case rel => first | exact ⟨k + 1, by omega, by go_num, hB2⟩ | ((repeat apply Exists.intro); refine ⟨?_, rfl⟩; exact ⟨k + 1, by omega, by go_num, hB2⟩)
            case measure => first | (simp [intOf]; done) | (simp [intOf]; omega)
        · go_wp2_with (fail)
          go_roundw
          case rel => first | exact ⟨k + 1, by omega, by go_num, hB2⟩ | ((repeat apply Exists.intro); refine ⟨?_, rfl⟩; exact ⟨k + 1, by omega, by go_num, hB2⟩)
          case measure => first | (simp [intOf]; done) | (simp [intOf]; omega)
      · obtain rfl : k = x.sp.length := by omega
        go_wp2_with (fail)
        refine bodyPost_ret (v := .bool false) (by simp [results, Try.results9, go_sem]) rfl ⟨false, rfl, hBw⟩
end Go.Proofs.Ytfebhofihioaoaa
