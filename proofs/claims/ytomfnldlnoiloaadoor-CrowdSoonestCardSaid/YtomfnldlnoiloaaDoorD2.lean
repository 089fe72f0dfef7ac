/- The document: which visits are valid; who arrives; errors; nodes. -/
import Derived.Test.YtomfnldlnoiloaaDoorS9
import Derived.Test.YtomfnldlnoiloaaDoorN9
namespace Go.Proofs.YtomfnldlnoiloaaDoor
set_option linter.unusedVariables false
set_option linter.unusedSimpArgs false
open Go Go.RowKit

theorem any_take {α : Type} {p : α → Bool} {l : List α} (h : ∀ j (hj : j < l.length), p l[j] = false) : l.any p = false := by
  rw [List.any_eq_false]
  intro x hx
  obtain ⟨i, hi, rfl⟩ := List.getElem_of_mem hx
  simp [h i hi]
theorem any_hit {α : Type} {p : α → Bool} {l : List α} {j : Nat} (hj : j < l.length) (h : p l[j] = true) : l.any p = true := List.any_eq_true.2 ⟨_, List.getElem_mem hj, h⟩
set_option maxRecDepth 100000 in
set_option maxHeartbeats 8000000 in
theorem visit24 (v : Vis) (h64 : Vis64 v) (A1 A2 A3 : Option Addr) (q1 q2 q3 : Nat) (w : World) (hI : VisAt w w.heap.size v A1 A2 A3) :
    Calls Tryd.prog 24 #[visV v A1 A2 A3 q1 q2 q3] w fun e w' => e = .returned (.bool (visB v)) ∧ Below w.heap.size w w' := by
  obtain ⟨w1, hw1⟩ : ∃ w1, w.alloc (.cells #[.slice A1 v.rm.length q1, .slice A2 v.tr.length q2, .slice A3 v.ar.length q3] 26) = w1 := ⟨_, rfl⟩
  have hB1 : Below w.heap.size w w1 := by rw [← hw1]; exact below1 _ _
  have b1 : Box w1 w.heap.size [.slice A1 v.rm.length q1, .slice A2 v.tr.length q2, .slice A3 v.ar.length q3] := by rw [← hw1]; exact Box.new w [.slice A1 v.rm.length q1, .slice A2 v.tr.length q2, .slice A3 v.ar.length q3] 26
  have HBX : Hid (∀ W, Below w1.heap.size w1 W → ((W.cell? ⟨w.heap.size, 0, none⟩ = some (.slice A1 v.rm.length q1) ∧ W.cell? ⟨w.heap.size, 1, none⟩ = some (.slice A2 v.tr.length q2) ∧ W.cell? ⟨w.heap.size, 2, none⟩ = some (.slice A3 v.ar.length q3)) ∧ Below w.heap.size w W) ∧ VisAt W w.heap.size v A1 A2 A3) := Lib.hid fun W h => ⟨⟨⟨((b1.call h).at_ 0 _ rfl).1, ((b1.call h).at_ 1 _ rfl).1, ((b1.call h).at_ 2 _ rfl).1⟩, hB1.trans (h.mono hB1.size)⟩, hI.below (hB1.trans (h.mono hB1.size))⟩
  obtain ⟨⟨⟨x0, x1, x2⟩, hBw⟩, _⟩ := HBX.out w1 (Below.refl _ _)
  have hrl := h64.n
  have htl := h64.t
  have hal := h64.a
  have hsub : IntKind.i64.wrap ((v.rm.length : Int) - 1) = (v.rm.length : Int) - 1 := IntWalk.i64_in _ (by omega)
  have HV : Hid (visB v = (((inB v.rm.length 1 8 && decide ((v.tr.length : Int) ≤ 16)) && decide ((v.ar.length : Int) ≤ 16)) && !(v.rm.any fun r => !inB r 0 1000) && !(v.tr.any (trBad v.rm.length)) && !(v.ar.any (arBad v.rm.length)))) := Lib.hid rfl
  clear hI b1 hB1 h64
  have hgt : ∀ k : Nat, decide ((16 : Int) < (k : Int)) = !decide ((k : Int) ≤ 16) := fun k => by rw [← decide_not]; exact decide_eq_decide.2 (by omega)
  have hgt2 := hgt v.tr.length
  have hgt3 := hgt v.ar.length
  clear hgt
  obtain ⟨s1, hs1⟩ : ∃ s, inB (v.rm.length : Int) 1 8 = s := ⟨_, rfl⟩
  obtain ⟨s2, hs2⟩ : ∃ s, decide ((v.tr.length : Int) ≤ 16) = s := ⟨_, rfl⟩
  obtain ⟨s3, hs3⟩ : ∃ s, decide ((v.ar.length : Int) ≤ 16) = s := ⟨_, rfl⟩
  rw [hs1, hs2, hs3] at HV
  rw [hs2] at hgt2
  rw [hs3] at hgt3
  have HS2 := Lib.hid hs2
  have HS3 := Lib.hid hs3
  clear hs2 hs3
  cases s1
  · have hg : Hid True := Lib.hid trivial
    go_enter Tryd.func24, Tryd.ntmps24
    go_wp2_with (first | (go_at_call 39; refine (in39 _ _ _ _).mono ?_; rintro e w9 ⟨rfl, rfl⟩) | fail)
    refine bodyPost_ret (v := .bool false) (by simp [results, Tryd.results24, go_sem]) rfl ⟨by rw [HV.out]; rfl, hBw⟩
  cases s2
  · go_enter Tryd.func24, Tryd.ntmps24
    go_wp2_with (first | (go_at_call 39; refine (in39 _ _ _ _).mono ?_; rintro e w9 ⟨rfl, rfl⟩) | fail)
    refine bodyPost_ret (v := .bool false) (by simp [results, Tryd.results24, go_sem]) rfl ⟨by rw [HV.out]; rfl, hBw⟩
  cases s3
  · go_enter Tryd.func24, Tryd.ntmps24
    go_wp2_with (first | (go_at_call 39; refine (in39 _ _ _ _).mono ?_; rintro e w9 ⟨rfl, rfl⟩) | fail)
    refine bodyPost_ret (v := .bool false) (by simp [results, Tryd.results24, go_sem]) rfl ⟨by rw [HV.out]; rfl, hBw⟩
  have ht16 : v.tr.length ≤ 16 := by have := of_decide_eq_true HS2.out; omega
  have ha16 : v.ar.length ≤ 16 := by have := of_decide_eq_true HS3.out; omega
  have hr8 : v.rm.length ≤ 8 := by have := inB_true.1 hs1; omega
  simp only [Bool.true_and, Bool.and_true] at HV
  go_enter Tryd.func24, Tryd.ntmps24
  go_wp2_with (first | (go_at_call 39; refine (in39 _ _ _ _).mono ?_; rintro e w9 ⟨rfl, rfl⟩) | fail)
  clear x0 x1 x2 hBw hs1 hgt2 hgt3
  go_loopw [4] (fun i wr => ∃ k : Nat, i = I k ∧ k ≤ v.rm.length ∧ Hid (Below w1.heap.size w1 wr) ∧ Hid (∀ j (hj : j < v.rm.length), j < k → (!inB v.rm[j] 0 1000) = false)) (fun i _ => v.rm.length - (intOf i).toNat)
  case atStart => exact ⟨0, rfl, by omega, Lib.hid (by first | exact Below.refl _ _ | (rw [hw1]; exact Below.refl _ _)), Lib.hid fun j _ h => by omega⟩
  case round =>
    obtain ⟨k, rfl, hk, HB, HU⟩ := hrel
    obtain ⟨⟨⟨y0, y1, y2⟩, hBk⟩, hIk⟩ := HBX.out wr HB.out
    by_cases hlt : k < v.rm.length
    · have hwk : IntKind.i64.wrap ((k : Int) + 1) = (k : Int) + 1 := IntWalk.i64_in _ (by omega)
      obtain ⟨rb, ro, rfl, _, hc⟩ := hIk.rm (by omega)
      have hck := hc k hlt
      clear hc hIk
      obtain ⟨z, hz⟩ : ∃ z, v.rm[k] = z := ⟨_, rfl⟩
      rw [hz] at hck
      have k0 : (0 : Int) ≤ (k : Int) := by omega
      have k1 : (k : Int) < (v.rm.length : Int) := by omega
      cases hb : inB z 0 1000
      · have HN : Hid (visB v = false) := Lib.hid (by rw [HV.out, any_hit (p := fun r => !inB r 0 1000) hlt (by simp [hz, hb])]; rfl)
        clear hz
        go_wp2_with (first | (go_at_call 39; refine (in39 _ _ _ _).mono ?_; rintro e w9 ⟨rfl, rfl⟩) | fail)
        refine bodyPost_ret (v := .bool false) (by simp [results, Tryd.results24, go_sem]) rfl ⟨by rw [HN.out], hBk⟩
      · have HU2 : Hid (∀ j (hj : j < v.rm.length), j < k + 1 → (!inB v.rm[j] 0 1000) = false) := Lib.hid fun j hj h => by
          rcases Nat.lt_succ_iff_lt_or_eq.1 h with h | rfl
          · exact HU.out j hj h
          · rw [hz, hb]; rfl
        clear hz
        go_wp2_with (first | (go_at_call 39; refine (in39 _ _ _ _).mono ?_; rintro e w9 ⟨rfl, rfl⟩) | fail)
        go_roundw
        case rel => exact ⟨k + 1, by go_num, by omega, HB, HU2⟩
        case measure => simp [intOf]; omega
    · obtain rfl : k = v.rm.length := by omega
      have HR : Hid ((v.rm.any fun r => !inB r 0 1000) = false) := Lib.hid (any_take fun j hj => HU.out j hj hj)
      clear HU hBk hIk
      go_wp2_with (fail)
      obtain ⟨wa, rfl⟩ : ∃ wa, wa = wr := ⟨_, rfl⟩
      go_loopw [5] (fun i wr => ∃ k : Nat, i = I k ∧ k ≤ v.tr.length ∧ Hid (Below w1.heap.size w1 wr) ∧ Hid (∀ j (hj : j < v.tr.length), j < k → trBad v.rm.length v.tr[j] = false)) (fun i _ => v.tr.length - (intOf i).toNat)
      case atStart => exact ⟨0, rfl, by omega, HB, Lib.hid fun j _ h => by omega⟩
      case round =>
        obtain ⟨k, rfl, hk2, HB2, HU⟩ := hrel
        clear y0 y1 y2
        obtain ⟨⟨⟨y0, y1, y2⟩, hBk⟩, hIk⟩ := HBX.out wr HB2.out
        by_cases hlt2 : k < v.tr.length
        · have hwk : IntKind.i64.wrap ((k : Int) + 1) = (k : Int) + 1 := IntWalk.i64_in _ (by omega)
          obtain ⟨rb, ro, rfl, _, hc⟩ := hIk.tr (by omega)
          obtain ⟨c0, c1, c2, c3⟩ := hc k hlt2
          clear hc hIk
          have hbd : trBad v.rm.length v.tr[k] = (!inB v.tr[k].1 0 ((v.rm.length : Int) - 1) || !inB v.tr[k].2.1 0 ((v.rm.length : Int) - 1) || (v.tr[k].1 == v.tr[k].2.1) || !inB v.tr[k].2.2.1 1 60 || !inB v.tr[k].2.2.2 0 1000) := rfl
          obtain ⟨f, hf⟩ : ∃ z, v.tr[k].1 = z := ⟨_, rfl⟩
          obtain ⟨g, hg⟩ : ∃ z, v.tr[k].2.1 = z := ⟨_, rfl⟩
          obtain ⟨d, hd⟩ : ∃ z, v.tr[k].2.2.1 = z := ⟨_, rfl⟩
          obtain ⟨r, hr⟩ : ∃ z, v.tr[k].2.2.2 = z := ⟨_, rfl⟩
          rw [hf, hg, hd, hr] at hbd
          rw [hf] at c0
          rw [hg] at c1
          rw [hd] at c2
          rw [hr] at c3
          clear hf hg hd hr
          have k0 : (0 : Int) ≤ (k : Int) := by omega
          have k1 : (k : Int) < (v.tr.length : Int) := by omega
          have HBn : Hid (Below w1.heap.size w1 (wr.alloc (.cells #[I f, I g, I d, I r] 51))) := Lib.hid (HB2.out.alloc HB2.out.size _)
          have HW : Hid (Below w.heap.size w (wr.alloc (.cells #[I f, I g, I d, I r] 51))) := Lib.hid (HBX.out _ HBn.out).1.2
          have HHIT : Hid (trBad v.rm.length v.tr[k] = true → visB v = false) := Lib.hid fun h => by rw [HV.out, any_hit (p := trBad v.rm.length) hlt2 h]; simp
          have HUn : Hid (trBad v.rm.length v.tr[k] = false → ∀ j (hj : j < v.tr.length), j < k + 1 → trBad v.rm.length v.tr[j] = false) := Lib.hid fun hb j hj h => by
            rcases Nat.lt_succ_iff_lt_or_eq.1 h with h | rfl
            · exact HU.out j hj h
            · exact hb
          have HBD := Lib.hid hbd
          clear hbd
          have hwrz : w.heap.size < wr.heap.size := by have h1 := HB2.out.size; rw [← hw1] at h1; simp at h1; omega
          cases b1 : inB f 0 ((v.rm.length : Int) - 1)
          · have HN : Hid (visB v = false) := Lib.hid (HHIT.out (by rw [HBD.out]; simp [*]))
            go_wp2_with (first | (go_at_call 39; refine (in39 _ _ _ _).mono ?_; rintro e w9 ⟨rfl, rfl⟩) | fail)
            refine bodyPost_ret (v := .bool false) (by simp [results, Tryd.results24, go_sem]) rfl ⟨by rw [HN.out], HW.out⟩
          cases b2 : inB g 0 ((v.rm.length : Int) - 1)
          · have HN : Hid (visB v = false) := Lib.hid (HHIT.out (by rw [HBD.out]; simp [*]))
            go_wp2_with (first | (go_at_call 39; refine (in39 _ _ _ _).mono ?_; rintro e w9 ⟨rfl, rfl⟩) | fail)
            refine bodyPost_ret (v := .bool false) (by simp [results, Tryd.results24, go_sem]) rfl ⟨by rw [HN.out], HW.out⟩
          cases b3 : (f == g)
          rotate_left
          · have HN : Hid (visB v = false) := Lib.hid (HHIT.out (by rw [HBD.out]; simp [*]))
            go_wp2_with (first | (go_at_call 39; refine (in39 _ _ _ _).mono ?_; rintro e w9 ⟨rfl, rfl⟩) | fail)
            refine bodyPost_ret (v := .bool false) (by simp [results, Tryd.results24, go_sem]) rfl ⟨by rw [HN.out], HW.out⟩
          cases b4 : inB d 1 60
          · have HN : Hid (visB v = false) := Lib.hid (HHIT.out (by rw [HBD.out]; simp [*]))
            go_wp2_with (first | (go_at_call 39; refine (in39 _ _ _ _).mono ?_; rintro e w9 ⟨rfl, rfl⟩) | fail)
            refine bodyPost_ret (v := .bool false) (by simp [results, Tryd.results24, go_sem]) rfl ⟨by rw [HN.out], HW.out⟩
          cases b5 : inB r 0 1000
          · have HN : Hid (visB v = false) := Lib.hid (HHIT.out (by rw [HBD.out]; simp [*]))
            go_wp2_with (first | (go_at_call 39; refine (in39 _ _ _ _).mono ?_; rintro e w9 ⟨rfl, rfl⟩) | fail)
            refine bodyPost_ret (v := .bool false) (by simp [results, Tryd.results24, go_sem]) rfl ⟨by rw [HN.out], HW.out⟩
          have HU2 := Lib.hid (HUn.out (by rw [HBD.out]; simp [*]))
          go_wp2_with (first | (go_at_call 39; refine (in39 _ _ _ _).mono ?_; rintro e w9 ⟨rfl, rfl⟩) | fail)
          go_roundw
          case rel => exact ⟨k + 1, by go_num, by omega, HBn, HU2⟩
          case measure => simp [intOf]; omega
        · obtain rfl : k = v.tr.length := by omega
          have HT : Hid (v.tr.any (trBad v.rm.length) = false) := Lib.hid (any_take fun j hj => HU.out j hj hj)
          clear HU hBk hIk
          go_wp2_with (fail)
          obtain ⟨wb, rfl⟩ : ∃ wb, wb = wr := ⟨_, rfl⟩
          go_loopw [7] (fun i wr => ∃ k : Nat, i = I k ∧ k ≤ v.ar.length ∧ Hid (Below w1.heap.size w1 wr) ∧ Hid (∀ j (hj : j < v.ar.length), j < k → arBad v.rm.length v.ar[j] = false)) (fun i _ => v.ar.length - (intOf i).toNat)
          case atStart => exact ⟨0, rfl, by omega, HB2, Lib.hid fun j _ h => by omega⟩
          case round =>
            obtain ⟨k, rfl, hk3, HB3, HU⟩ := hrel
            clear y0 y1 y2
            obtain ⟨⟨⟨y0, y1, y2⟩, hBk⟩, hIk⟩ := HBX.out wr HB3.out
            by_cases hlt3 : k < v.ar.length
            · have hwk : IntKind.i64.wrap ((k : Int) + 1) = (k : Int) + 1 := IntWalk.i64_in _ (by omega)
              obtain ⟨rb, ro, rfl, _, hc⟩ := hIk.ar (by omega)
              obtain ⟨c0, c1, c2⟩ := hc k hlt3
              clear hc hIk
              have hbd : arBad v.rm.length v.ar[k] = (!inB v.ar[k].1 0 60 || !inB v.ar[k].2.1 0 ((v.rm.length : Int) - 1) || !inB v.ar[k].2.2 0 1000) := rfl
              obtain ⟨f, hf⟩ : ∃ z, v.ar[k].1 = z := ⟨_, rfl⟩
              obtain ⟨g, hg⟩ : ∃ z, v.ar[k].2.1 = z := ⟨_, rfl⟩
              obtain ⟨d, hd⟩ : ∃ z, v.ar[k].2.2 = z := ⟨_, rfl⟩
              rw [hf, hg, hd] at hbd
              rw [hf] at c0
              rw [hg] at c1
              rw [hd] at c2
              clear hf hg hd
              have k0 : (0 : Int) ≤ (k : Int) := by omega
              have k1 : (k : Int) < (v.ar.length : Int) := by omega
              have HBn : Hid (Below w1.heap.size w1 (wr.alloc (.cells #[I f, I g, I d] 49))) := Lib.hid (HB3.out.alloc HB3.out.size _)
              have HW : Hid (Below w.heap.size w (wr.alloc (.cells #[I f, I g, I d] 49))) := Lib.hid (HBX.out _ HBn.out).1.2
              have HHIT : Hid (arBad v.rm.length v.ar[k] = true → visB v = false) := Lib.hid fun h => by rw [HV.out, any_hit (p := arBad v.rm.length) hlt3 h]; simp
              have HUn : Hid (arBad v.rm.length v.ar[k] = false → ∀ j (hj : j < v.ar.length), j < k + 1 → arBad v.rm.length v.ar[j] = false) := Lib.hid fun hb j hj h => by
                rcases Nat.lt_succ_iff_lt_or_eq.1 h with h | rfl
                · exact HU.out j hj h
                · exact hb
              have HBD := Lib.hid hbd
              clear hbd
              have hwrz : w.heap.size < wr.heap.size := by have h1 := HB3.out.size; rw [← hw1] at h1; simp at h1; omega
              cases b1 : inB f 0 60
              · have HN : Hid (visB v = false) := Lib.hid (HHIT.out (by rw [HBD.out]; simp [*]))
                go_wp2_with (first | (go_at_call 39; refine (in39 _ _ _ _).mono ?_; rintro e w9 ⟨rfl, rfl⟩) | fail)
                refine bodyPost_ret (v := .bool false) (by simp [results, Tryd.results24, go_sem]) rfl ⟨by rw [HN.out], HW.out⟩
              cases b2 : inB g 0 ((v.rm.length : Int) - 1)
              · have HN : Hid (visB v = false) := Lib.hid (HHIT.out (by rw [HBD.out]; simp [*]))
                go_wp2_with (first | (go_at_call 39; refine (in39 _ _ _ _).mono ?_; rintro e w9 ⟨rfl, rfl⟩) | fail)
                refine bodyPost_ret (v := .bool false) (by simp [results, Tryd.results24, go_sem]) rfl ⟨by rw [HN.out], HW.out⟩
              cases b3 : inB d 0 1000
              · have HN : Hid (visB v = false) := Lib.hid (HHIT.out (by rw [HBD.out]; simp [*]))
                go_wp2_with (first | (go_at_call 39; refine (in39 _ _ _ _).mono ?_; rintro e w9 ⟨rfl, rfl⟩) | fail)
                refine bodyPost_ret (v := .bool false) (by simp [results, Tryd.results24, go_sem]) rfl ⟨by rw [HN.out], HW.out⟩
              have HU2 := Lib.hid (HUn.out (by rw [HBD.out]; simp [*]))
              go_wp2_with (first | (go_at_call 39; refine (in39 _ _ _ _).mono ?_; rintro e w9 ⟨rfl, rfl⟩) | fail)
              go_roundw
              case rel => exact ⟨k + 1, by go_num, by omega, HBn, HU2⟩
              case measure => simp [intOf]; omega
            · obtain rfl : k = v.ar.length := by omega
              have HN : Hid (visB v = true) := Lib.hid (by rw [HV.out, HR.out, HT.out, any_take (l := v.ar) fun j hj => HU.out j hj hj]; rfl)
              clear HU
              go_wp2_with (fail)
              refine bodyPost_ret (v := .bool true) (by simp [results, Tryd.results24, go_sem]) rfl ⟨by rw [HN.out], hBk⟩
end Go.Proofs.YtomfnldlnoiloaaDoor
/- The document: errors, arrivals, nodes. -/
namespace Go.Proofs.YtomfnldlnoiloaaDoor
set_option linter.unusedVariables false
set_option linter.unusedSimpArgs false
open Go Go.RowKit

set_option maxRecDepth 100000 in
set_option maxHeartbeats 4000000 in
theorem errors21 (v : Vis) (h64 : Vis64 v) (A1 A2 A3 : Option Addr) (q1 q2 q3 : Nat) (p m : Int) (w : World) (hI : VisAt w w.heap.size v A1 A2 A3) :
    Calls Tryd.prog 21 #[visV v A1 A2 A3 q1 q2 q3, I p, I m] w fun e w' => e = .returned (I (errN v p m)) ∧ Below w.heap.size w w' := by
  obtain ⟨w1, hw1⟩ : ∃ w1, w.alloc (.cells #[.slice A1 v.rm.length q1, .slice A2 v.tr.length q2, .slice A3 v.ar.length q3] 26) = w1 := ⟨_, rfl⟩
  have hB1 : Below w.heap.size w w1 := by rw [← hw1]; exact below1 _ _
  have b1 : Box w1 w.heap.size [.slice A1 v.rm.length q1, .slice A2 v.tr.length q2, .slice A3 v.ar.length q3] := by rw [← hw1]; exact Box.new w [.slice A1 v.rm.length q1, .slice A2 v.tr.length q2, .slice A3 v.ar.length q3] 26
  have H24 := Lib.hid (visit24 v h64 A1 A2 A3 q1 q2 q3 w1 ((hI.below hB1).more hB1.size))
  have HBX : Hid (∀ W, Below w1.heap.size w1 W → W.cell? ⟨w.heap.size, 0, none⟩ = some (.slice A1 v.rm.length q1) ∧ Below w.heap.size w W) := Lib.hid fun W h => ⟨((b1.call h).at_ 0 _ rfl).1, hB1.trans (h.mono hB1.size)⟩
  have c0 := (b1.at_ 0 _ rfl).1
  have c1 := (b1.at_ 1 _ rfl).1
  have c2 := (b1.at_ 2 _ rfl).1
  have hsub : IntKind.i64.wrap ((v.rm.length : Int) - 1) = (v.rm.length : Int) - 1 := IntWalk.i64_in _ (by have := h64.n; omega)
  unfold errN
  obtain ⟨s1, hs1⟩ : ∃ s, visB v = s := ⟨_, rfl⟩
  obtain ⟨s2, hs2⟩ : ∃ s, inB p 0 ((v.rm.length : Int) - 1) = s := ⟨_, rfl⟩
  obtain ⟨s3, hs3⟩ : ∃ s, inB m 0 60 = s := ⟨_, rfl⟩
  rw [hs1] at H24 ⊢
  rw [hs2, hs3]
  clear hs1 b1 hB1 hI h64
  cases s1
  · go_enter Tryd.func21, Tryd.ntmps21
    go_wp2_with (first
      | (go_at_call 24; refine H24.out.mono ?_; rintro e w3 ⟨rfl, hb3⟩; obtain ⟨y0, hB3⟩ := HBX.out w3 hb3)
      | fail)
    go_ret
    exact ⟨rfl, hB3⟩
  cases s2
  · go_enter Tryd.func21, Tryd.ntmps21
    go_wp2_with (first
      | (go_at_call 24; refine H24.out.mono ?_; rintro e w3 ⟨rfl, hb3⟩; obtain ⟨y0, hB3⟩ := HBX.out w3 hb3)
      | (go_at_call 39; refine (in39 _ _ _ _).mono ?_; rintro e w4 ⟨rfl, rfl⟩)
      | fail)
    go_ret
    exact ⟨rfl, hB3⟩
  cases s3
  · go_enter Tryd.func21, Tryd.ntmps21
    go_wp2_with (first
      | (go_at_call 24; refine H24.out.mono ?_; rintro e w3 ⟨rfl, hb3⟩; obtain ⟨y0, hB3⟩ := HBX.out w3 hb3)
      | (go_at_call 39; refine (in39 _ _ _ _).mono ?_; rintro e w4 ⟨rfl, rfl⟩)
      | fail)
    go_ret
    exact ⟨rfl, hB3⟩
  go_enter Tryd.func21, Tryd.ntmps21
  go_wp2_with (first
    | (go_at_call 24; refine H24.out.mono ?_; rintro e w3 ⟨rfl, hb3⟩; obtain ⟨y0, hB3⟩ := HBX.out w3 hb3)
    | (go_at_call 39; refine (in39 _ _ _ _).mono ?_; rintro e w4 ⟨rfl, rfl⟩)
    | fail)
  go_ret
  exact ⟨rfl, hB3⟩
/-- Those of the first arrivals. -/
def arrTo (v : Vis) (q t k : Nat) : Int := lsum ((v.ar.take k).map fun a => if a.2.1.toNat = q ∧ a.1.toNat = t then a.2.2 else 0)
theorem arrTo_succ (v : Vis) (q t : Nat) {k : Nat} (hk : k < v.ar.length) : arrTo v q t (k + 1) = arrTo v q t k + (if v.ar[k].2.1.toNat = q ∧ v.ar[k].1.toNat = t then v.ar[k].2.2 else 0) := by
  unfold arrTo
  rw [List.take_succ_eq_append_getElem hk, List.map_append, lsum_app]
  simp [lsum]
theorem arrTo_all (v : Vis) (q t : Nat) : arrTo v q t v.ar.length = arrive v q t := by unfold arrTo arrive; rw [List.take_length]
theorem arrTo_le {v : Vis} (hv : VisOk v) (q t : Nat) : ∀ k, k ≤ v.ar.length → 0 ≤ arrTo v q t k ∧ arrTo v q t k ≤ 1000 * k
  | 0, _ => by simp [arrTo, lsum]
  | k + 1, hk => by
    have ih := arrTo_le hv q t k (by omega)
    have h1 := (hv.ar _ (List.getElem_mem (show k < v.ar.length by omega))).2.2
    rw [arrTo_succ v q t (by omega)]
    split <;> omega
set_option maxRecDepth 100000 in
set_option maxHeartbeats 4000000 in
theorem arrive38 (v : Vis) (hv : VisOk v) (A1 A2 A3 : Option Addr) (q1 q2 q3 q t : Nat) (w : World) (hI : VisAt w w.heap.size v A1 A2 A3) :
    Calls Tryd.prog 38 #[visV v A1 A2 A3 q1 q2 q3, I q, I t] w fun e w' => e = .returned (I (arrive v q t)) ∧ Below w.heap.size w w' := by
  have HBX : Hid (∀ W, Below (w.alloc (.cells #[.slice A1 v.rm.length q1, .slice A2 v.tr.length q2, .slice A3 v.ar.length q3] 26)).heap.size (w.alloc (.cells #[.slice A1 v.rm.length q1, .slice A2 v.tr.length q2, .slice A3 v.ar.length q3] 26)) W → (W.cell? ⟨w.heap.size, 2, none⟩ = some (.slice A3 v.ar.length q3) ∧ Below w.heap.size w W) ∧ VisAt W w.heap.size v A1 A2 A3) := Lib.hid fun W h =>
    ⟨⟨(((Box.new w [.slice A1 v.rm.length q1, .slice A2 v.tr.length q2, .slice A3 v.ar.length q3] 26).call h).at_ 2 _ rfl).1, (below1 w _).trans (h.mono (by simp))⟩, hI.below ((below1 w _).trans (h.mono (by simp)))⟩
  have HV := Lib.hid hv
  have hal := hv.al
  clear hI hv
  go_enter Tryd.func38, Tryd.ntmps38
  go_wp2
  generalize w.alloc (.cells #[.slice A1 v.rm.length q1, .slice A2 v.tr.length q2, .slice A3 v.ar.length q3] 26) = w1 at *
  go_loopw [7, 8] (fun s i wr => ∃ k : Nat, i = I k ∧ s = I (arrTo v q t k) ∧ k ≤ v.ar.length ∧ Hid (wr = w1)) (fun _ i _ => v.ar.length - (intOf i).toNat)
  case atStart => exact ⟨0, rfl, rfl, by omega, Lib.hid rfl⟩
  case round =>
    obtain ⟨k, rfl, rfl, hk, HW⟩ := hrel
    have hww := HW.out
    obtain ⟨⟨x2, hB⟩, hIw⟩ := HBX.out w1 (Below.refl _ _)
    subst hww
    by_cases hlt : k < v.ar.length
    · have hwk : IntKind.i64.wrap ((k : Int) + 1) = (k : Int) + 1 := IntWalk.i64_in _ (by omega)
      obtain ⟨rb, ro, rfl, _, hc⟩ := hIw.ar (by omega)
      obtain ⟨c0, c1, c2⟩ := hc k hlt
      have har := HV.out.ar _ (List.getElem_mem hlt)
      have HSU := Lib.hid (arrTo_succ v q t hlt)
      have hle := arrTo_le HV.out q t k hk
      clear hc hIw
      obtain ⟨f, hf⟩ : ∃ z, v.ar[k].1 = z := ⟨_, rfl⟩
      obtain ⟨g, hg⟩ : ∃ z, v.ar[k].2.1 = z := ⟨_, rfl⟩
      obtain ⟨d, hd⟩ : ∃ z, v.ar[k].2.2 = z := ⟨_, rfl⟩
      rw [hf] at c0
      rw [hg] at c1
      rw [hd] at c2
      rw [hf, hg, hd] at HSU har
      clear hf hg hd
      obtain ⟨sm, hsm⟩ : ∃ z, arrTo v q t k = z := ⟨_, rfl⟩
      rw [hsm] at HSU hle
      rw [hsm]
      clear hsm
      have k0 : (0 : Int) ≤ (k : Int) := by omega
      have k1 : (k : Int) < (v.ar.length : Int) := by omega
      have hwa : IntKind.i64.wrap (sm + d) = sm + d := IntWalk.i64_in _ (by omega)
      by_cases e1 : g = (q : Int)
      · by_cases e2 : f = (t : Int)
        · have HS2 : Hid (arrTo v q t (k + 1) = sm + d) := Lib.hid (by rw [HSU.out, if_pos ⟨by omega, by omega⟩])
          clear HSU hle har
          subst e1 e2
          go_wp2
          go_roundw
          case rel => exact ⟨k + 1, by go_num, by rw [HS2.out], by omega, Lib.hid trivial⟩
          case measure => simp [intOf]; omega
        · have HS2 : Hid (arrTo v q t (k + 1) = sm) := Lib.hid (by rw [HSU.out, if_neg (fun h => e2 (by omega))]; omega)
          have e2b : (f == (t : Int)) = false := by simpa using e2
          clear HSU hle har
          subst e1
          go_wp2
          go_roundw
          case rel => exact ⟨k + 1, by go_num, by rw [HS2.out], by omega, Lib.hid trivial⟩
          case measure => simp [intOf]; omega
      · have HS2 : Hid (arrTo v q t (k + 1) = sm) := Lib.hid (by rw [HSU.out, if_neg (fun h => e1 (by omega))]; omega)
        have e1b : (g == (q : Int)) = false := by simpa using e1
        clear HSU hle har
        go_wp2
        go_roundw
        case rel => exact ⟨k + 1, by go_num, by rw [HS2.out], by omega, Lib.hid trivial⟩
        case measure => simp [intOf]; omega
    · obtain rfl : k = v.ar.length := by omega
      have HA := Lib.hid (arrTo_all v q t)
      clear hIw
      go_wp2
      go_ret
      exact ⟨by rw [HA.out]; rfl, hB⟩
set_option maxRecDepth 100000 in
set_option maxHeartbeats 1000000 in
theorem node49 (v : Vis) (hn8 : v.rm.length ≤ 8) (A1 A2 A3 : Option Addr) (q1 q2 q3 p t : Nat) (hp : p ≤ 1000) (ht : t ≤ 1000) (w : World) :
    Calls Tryd.prog 49 #[visV v A1 A2 A3 q1 q2 q3, I p, I t] w fun e w' => e = .returned (I (nd v.n p t : Nat)) ∧ Below w.heap.size w w' := by
  have hmul : t * v.rm.length ≤ 1000 * 8 := Nat.mul_le_mul ht hn8
  have hm2 : (t : Int) * (v.rm.length : Int) = ((t * v.rm.length : Nat) : Int) := by push_cast; rfl
  have hw1 : IntKind.i64.wrap ((t : Int) * (v.rm.length : Int)) = ((t * v.rm.length : Nat) : Int) := by rw [hm2]; exact IntWalk.i64_in _ (by omega)
  have hw2 : IntKind.i64.wrap (((t * v.rm.length : Nat) : Int) + (p : Int)) = ((t * v.rm.length : Nat) : Int) + p := IntWalk.i64_in _ (by omega)
  have HR : Hid (((nd v.n p t : Nat) : Int) = ((t * v.rm.length : Nat) : Int) + p) := Lib.hid (by unfold nd Vis.n; push_cast; rfl)
  obtain ⟨z, hz⟩ : ∃ z : Nat, t * v.rm.length = z := ⟨_, rfl⟩
  rw [hz] at hw1 hw2 HR
  clear hz hm2 hmul
  go_enter Tryd.func49, Tryd.ntmps49
  go_wp2
  go_ret
  exact ⟨by rw [HR.out]; rfl, by (repeat' (first | assumption | exact Below.refl _ _ | refine Below.drew ?_ | refine below_drewN ?_ _ | refine Below.setCell ?_ (by first | omega | (simp; done) | (simp; omega)) _ | refine Below.alloc ?_ (by first | omega | (simp; done) | (simp; omega)) _ | refine Below.trans ?_ (Below.mono (by assumption) (by first | omega | (simp; done) | (simp; omega)))))⟩
end Go.Proofs.YtomfnldlnoiloaaDoor
