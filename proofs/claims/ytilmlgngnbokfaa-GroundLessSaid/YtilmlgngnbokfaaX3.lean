/- The document's first: the sum of the greatest. -/
import Derived.Test.YtilmlgngnbokfaaX2
import Derived.Test.YtilmlgngnbokfaaM3
import Derived.Laws.AppendOwnNone
namespace Go.Proofs.Ytilmlgngnbokfaa
set_option linter.unusedVariables false
set_option linter.unusedSimpArgs false
open Go.RowKit

theorem own_form {w : World} {base n : Nat} {e : TypeId} {v : Value} {xs : List Value} (h : w.ownsRow base e 1 v n xs) :
    (v = .slice none 0 0 ∧ n = 0) ∨ ∃ g cap, v = .slice (some ⟨g, 0, none⟩) n cap ∧ base ≤ g ∧ g < w.heap.size ∧ n ≤ cap ∧ cap ≤ 9223372036854775807 := by
  rcases h.2 with h1 | ⟨g, cap, cur, rfl, hb, hc, h3, h4, _⟩
  · exact .inl ⟨h1.1, h1.2⟩
  · exact .inr ⟨g, cap, rfl, (h.lt g rfl).1, (h.lt g rfl).2, h3, by simpa [maxLen] using h4⟩
theorem info3 : (Try.prog.info? 3).map (fun i => (i.zero, i.size, i.bytes)) = some (some (.int .i64 0), 1, 8) := by kernel_rfl

theorem getD_get {zs : List Int} {j : Nat} (h : j < zs.length) : zs.getD j 0 = zs[j] := by simp [List.getD, h]
theorem grown_own {w w' : World} {base n : Nat} {e : TypeId} {v : Value} {xs : List Value} {size : Nat} (h : w.ownsRow base e size v n xs) (hB : Below w.heap.size w w') : w'.ownsRow base e size v n xs :=
  h.kept (row := none) ⟨hB.os, hB.tape, hB.output, hB.size, fun k hk _ => hB.block k hk⟩ (by cases h0 : v.ownBlock <;> simp)

set_option maxRecDepth 100000 in
set_option maxHeartbeats 1000000 in
theorem first_nil (v : Value) (base : Nat) (pe : Int) (w : World) (hown : w.ownsRow base 3 1 v 0 []) (hpe : 0 ≤ pe ∧ pe ≤ 100) : Calls Try.prog 82 #[v, I pe] w (RetI 0 w) := by
  obtain ⟨i0, hi, hi1, hi2, hi3⟩ := info_parts info3
  have u22 : Try.prog.underlying 22 = some (.slice 3) := Try.underlying22
  have hpe0 : ¬ (0 : Int) < pe ∨ (0 : Int) < pe := by omega
  have fin : ∀ (s7 : Value), s7 = I 0 → s7 = I 0 := fun _ h => h
  rcases own_form hown with ⟨rfl, _⟩ | ⟨g, cap, rfl, hg, hg2, hcap, hcap2⟩
  · have HO := Lib.hid hown
    clear hown
    rcases hpe0 with h | h
    all_goals
      go_enter Try.func82, Try.ntmps82
      go_wp2_with (at_builtin; refine wpList_append_own_none (t := 22) rfl _ _ rfl w.heap.size 3 i0 1 u22 hi _ 0 [] rfl (World.ownsRow_made w #[] 0 (Nat.le_refl _) (Nat.zero_le _) (by simp)) rfl ?_)
      go_loop [5, 7] (fun s5 k => s5 = I 0 ∧ k = I 0) (fun _ _ => 0)
      case atStart => exact ⟨rfl, rfl⟩
      case round =>
        obtain ⟨rfl, rfl⟩ := hrel
        go_wp2
        go_ret
        exact ⟨rfl, by (repeat' (first | assumption | exact Below.refl _ _ | refine Below.drew ?_ | refine below_drewN ?_ _ | refine Below.setCell ?_ (by first | omega | (simp; done) | (simp; omega)) _ | refine Below.alloc ?_ (by first | omega | (simp; done) | (simp; omega)) _ | refine Below.trans ?_ (Below.mono (by assumption) (by first | omega | (simp; done) | (simp; omega)))))⟩
  · have HO := Lib.hid hown
    clear hown
    rcases hpe0 with h | h
    all_goals
      go_enter Try.func82, Try.ntmps82
      go_wp2_with (at_builtin; refine wpList_append_own _ rfl _ _ 22 rfl w.heap.size 3 i0 (.int .i64 0) 1 8 u22 hi hi1 hi2 hi3 rfl (by decide) _ _ _ rfl (World.ownsRow_made w #[] 0 (Nat.le_refl _) (Nat.zero_le _) (by simp)) ⟨g, 0, none⟩ 0 cap [] rfl rfl (fun j u h => by simp at h) (fun u h => by simp at h) (by simp) (by simp) (by simp) ?_)
      intro v' w1 hown hgrow hnil
      have hB : Below w.heap.size w w1 := ((Below.refl _ w).alloc (Nat.le_refl _) _).grown hgrow (by simp) (by intro k hk; simp [Value.ownBlock] at hk; omega)
      obtain ⟨A', cap', rfl⟩ : ∃ A' cap', v' = .slice A' 0 cap' := by
        rcases own_form (by simpa using hown) with ⟨h, _⟩ | ⟨g', cap', h, _⟩
        · exact ⟨_, _, h⟩
        · exact ⟨_, _, h⟩
      clear hown hgrow hnil
      go_wp2
      go_loop [5, 7] (fun s5 k => s5 = I 0 ∧ k = I 0) (fun _ _ => 0)
      case atStart => exact ⟨rfl, rfl⟩
      case round =>
        obtain ⟨rfl, rfl⟩ := hrel
        go_wp2
        go_ret
        exact ⟨rfl, hB⟩

set_option maxRecDepth 100000 in
set_option maxHeartbeats 2000000 in
theorem first_some (g cap : Nat) (xs : List Int) (base : Nat) (pe : Int) (w : World) (h0 : 0 < xs.length) (hown : w.ownsRow base 3 1 (.slice (some ⟨g, 0, none⟩) xs.length cap) xs.length (xs.map I)) (hlen : xs.length ≤ 1000)
    (hbd : ∀ x ∈ xs, 0 ≤ x ∧ x ≤ 50000000) (hpe : 0 ≤ pe ∧ pe ≤ 100) : Calls Try.prog 82 #[.slice (some ⟨g, 0, none⟩) xs.length cap, I pe] w (RetI (topS pe.toNat xs) w) := by
  obtain ⟨i0, hi, hi1, hi2, hi3⟩ := info_parts info3
  have u22 : Try.prog.underlying 22 = some (.slice 3) := Try.underlying22
  have HBD := Lib.hid hbd
  have HO := Lib.hid hown
  have hg := (hown.lt g rfl).2
  clear hown hbd
  generalize hn : xs.length = n at *
  have HN := Lib.hid hn
  clear hn
  go_enter Try.func82, Try.ntmps82
  go_wp2_with (at_builtin; refine wpList_append_own _ rfl _ _ 22 rfl w.heap.size 3 i0 (.int .i64 0) 1 8 u22 hi hi1 hi2 hi3 rfl (by decide) _ _ _ rfl (World.ownsRow_made w #[] 0 (Nat.le_refl _) (Nat.zero_le _) (by simp)) ⟨g, 0, none⟩ n cap (xs.map I) rfl (by rw [List.length_map, HN.out, Nat.mul_one]) ?qc2 ?qc3 ?qc4 ?qc5 ?qc6 ?_)
  case qc2 =>
    intro j u hj
    exact Lib.cell?_alloc_some _ (HO.out.cells rfl j u hj)
  case qc3 =>
    intro u hu
    obtain ⟨s, _, rfl⟩ := List.mem_map.1 hu
    rfl
  case qc4 => simp [maxLen]; omega
  case qc5 => omega
  case qc6 => simp
  intro v' w1 hown hgrow hnil
  have hB : Below w.heap.size w w1 := ((Below.refl _ w).alloc (Nat.le_refl _) _).grown hgrow (by simp) (by intro k hk; simp [Value.ownBlock] at hk; omega)
  have hown' : w1.ownsRow w.heap.size 3 1 v' n (xs.map I) := by simpa using hown
  obtain ⟨r, rcap, rfl, hr1, hr2, hcap, hcap2⟩ : ∃ r rcap, v' = .slice (some ⟨r, 0, none⟩) n rcap ∧ w.heap.size ≤ r ∧ r < w1.heap.size ∧ n ≤ rcap ∧ rcap ≤ 9223372036854775807 := by
    rcases own_form hown' with ⟨_, h⟩ | h
    · omega
    · exact h
  have HOW := Lib.hid hown'
  clear hown hown' hgrow hnil
  go_wp2
  obtain ⟨pn, rfl⟩ := Int.eq_ofNat_of_zero_le hpe.1
  have hsum : ∀ (ys : List Int) (k : Nat), ys.Perm xs → k ≤ n → 0 ≤ (ys.take k).sum ∧ (ys.take k).sum ≤ 50000000 * k := fun ys k hp hk => by
    have h1 := sum_le (M := 50000000) (ys.take k) (fun v hv => HBD.out v (hp.mem_iff.1 (List.mem_of_mem_take hv)))
    have h2 : (ys.take k).length ≤ k := List.length_take_le _ _
    refine ⟨h1.1, Int.le_trans h1.2 ?_⟩
    rw [Int.mul_comm]
    exact Int.mul_le_mul_of_nonneg_left (by omega) (by omega)
  have HSUM := Lib.hid hsum
  clear hsum
  go_loopw [5, 7, 8] (fun s5 s7 s8 wr => ∃ (k : Nat) (ys : List Int), k ≤ n ∧ k ≤ pn ∧ s7 = I k ∧ s5 = I (ys.take k).sum ∧ Below w.heap.size w wr ∧ w1.heap.size ≤ wr.heap.size ∧ Hid (Sel ys xs k) ∧ Hid (wr.ownsRow w.heap.size 3 1 (.slice (some ⟨r, 0, none⟩) n rcap) n (ys.map I))) (fun _ s7 _ _ => n - (intOf s7).toNat)
  case atStart => exact ⟨0, xs, by omega, by omega, rfl, rfl, hB, Nat.le_refl _, Lib.hid (Sel.zero xs), HOW⟩
  case round =>
    obtain ⟨k, ys, hk, hkp, rfl, rfl, hBw, hsz, hS, hR⟩ := hrel
    have hyl : ys.length = n := hS.out.1.length_eq.trans HN.out
    have HYL := Lib.hid hyl
    by_cases hgo : k < n ∧ k < pn
    · obtain ⟨hkn, hkp'⟩ := hgo
      have hsk := HSUM.out ys k hS.out.1 hk
      generalize hs0 : (ys.take k).sum = s0 at *
      have HS0 := Lib.hid hs0
      clear hs0 hyl
      go_wp2
      obtain ⟨wo, rfl⟩ : ∃ wo : World, wo = wr := ⟨_, rfl⟩
      go_loopw [8] (fun s8 wq => ∃ (i : Nat) (zs : List Int), k < i ∧ i ≤ n ∧ s8 = I i ∧ Below w.heap.size w wq ∧ w1.heap.size ≤ wq.heap.size ∧ Hid (Sel zs xs k ∧ Best zs k i ∧ (zs.take k).sum = s0) ∧ Hid (wq.ownsRow w.heap.size 3 1 (.slice (some ⟨r, 0, none⟩) n rcap) n (zs.map I))) (fun s8 _ => n - (intOf s8).toNat)
      case atStart => exact ⟨k + 1, ys, by omega, by omega, by go_num, hBw, hsz, Lib.hid ⟨hS.out, fun j h1 _ h2 => by omega, HS0.out⟩, hR⟩
      case round =>
        obtain ⟨i, zs, hki, hin, rfl, hBq, hszq, hZ, hRq⟩ := hrel
        have hzl : zs.length = n := hZ.out.1.1.length_eq.trans HN.out
        by_cases hlt : i < n
        · have ci : wr.cell? ⟨r, i, none⟩ = some (I (zs.getD i 0)) := by rw [hRq.out.cellAt i (by omega)]; simp [hzl, hlt, List.getD]
          have ck : wr.cell? ⟨r, k, none⟩ = some (I (zs.getD k 0)) := by rw [hRq.out.cellAt k (by omega)]; simp [hzl, hkn, List.getD]
          have fi := hRq.out.frozenAt i
          have fk := hRq.out.frozenAt k
          have HZL := Lib.hid hzl
          generalize hzi : zs.getD i 0 = zi at ci
          generalize hzk : zs.getD k 0 = zk at ck
          have HZI := Lib.hid hzi
          have HZK := Lib.hid hzk
          clear hzl hzi hzk
          by_cases hq : zk < zi
          · go_wp2
            go_quiet (fail)
            go_wp2
            refine (wpIn_wide (n := 9)).1 ?_
            refine wpIn_region_plan (Plan.ons [0, 1, 2, 3, 4, 5, 6, 7, 8, 9, 10, 11, 12, 13, 14, 15] .fin) [2, 3] (fun _ => True) [] rfl (by kernel_rfl) (by kernel_rfl) (fun _ d _ _ _ h => by cases d <;> exact h) trivial ?_
            iterate 2 (refine ordQ_li rfl rfl rfl (fun K hK => ?_); go_simp; refine hK _ ?_; clear hK K)
            (refine ordQ_held (.slice (some ⟨r, 0, none⟩) n rcap) rfl rfl rfl rfl (fun W' hC' => ?_) (fun K hK => ?_); (focus (obtain _ := hC'; go_simp; try exact ⟨rfl, rfl⟩)); go_simp; refine hK _ ?_; clear hK K)
            (refine ordQ_held (I k) rfl rfl rfl rfl (fun W' hC' => ?_) (fun K hK => ?_); (focus (obtain _ := hC'; go_simp; try exact ⟨rfl, rfl⟩)); go_simp; refine hK _ ?_; clear hK K)
            iterate 9 (refine ordQ_li rfl rfl rfl (fun K hK => ?_); go_simp; refine hK _ ?_; clear hK K)
            (refine ordQ_hv rfl rfl rfl (fun K hK => ?_); gi_wp2; refine hK _ _ (fun _ => trivial) ?_; clear hK K)
            (refine ordQ_li rfl rfl rfl (fun K hK => ?_); go_simp; refine hK _ ?_; clear hK K)
            (refine ordQ_hv rfl rfl rfl (fun K hK => ?_); gi_wp2; refine hK _ _ (fun _ => trivial) ?_; clear hK K)
            refine ordQ_fin ?_
            go_wp2
            go_roundw
            case rel =>
              have hi' : i < zs.length := by have := HZL.out; omega
              have hk' : k < zs.length := by have := HZL.out; omega
              have ei : zs[i] = zi := (getD_get hi').symm.trans HZI.out
              have ek : zs[k] = zk := (getD_get hk').symm.trans HZK.out
              obtain ⟨z1, z2, z3⟩ := hZ.out
              refine ⟨i + 1, swapL zs i k hi' hk', by omega, by omega, by go_num, by (repeat' (first | assumption | exact Below.refl _ _ | refine Below.drew ?_ | refine below_drewN ?_ _ | refine Below.setCell ?_ (by first | omega | (simp; done) | (simp; omega)) _ | refine Below.alloc ?_ (by first | omega | (simp; done) | (simp; omega)) _ | refine Below.trans ?_ (Below.mono (by assumption) (by first | omega | (simp; done) | (simp; omega))))), by simpa using hszq, Lib.hid ⟨z1.swap hk' hi' hki, z2.swap hi' hk' hki (by rw [ei, ek]; exact hq), (by rw [swapL_take hk' hi' hki]; exact z3)⟩, Lib.hid ?_⟩
              have s1 := (World.ownsRow.stored hRq.out i (I zk)).1
              have s2 := (World.ownsRow.stored s1 k (I zi)).1
              have e : (swapL zs i k hi' hk').map I = ((zs.map I).set i (I zk)).set k (I zi) := by simp only [swapL, List.map_set, ei, ek]
              rw [e]
              exact s2
            case measure => simp [intOf]; omega
          · go_wp2
            go_quiet (fail)
            go_wp2
            go_roundw
            case rel =>
              have hi' : i < zs.length := by have := HZL.out; omega
              have hk' : k < zs.length := by have := HZL.out; omega
              obtain ⟨z1, z2, z3⟩ := hZ.out
              refine ⟨i + 1, zs, by omega, by omega, by go_num, by (repeat' (first | assumption | exact Below.refl _ _ | refine Below.drew ?_ | refine below_drewN ?_ _ | refine Below.setCell ?_ (by first | omega | (simp; done) | (simp; omega)) _ | refine Below.alloc ?_ (by first | omega | (simp; done) | (simp; omega)) _ | refine Below.trans ?_ (Below.mono (by assumption) (by first | omega | (simp; done) | (simp; omega))))), by simpa using hszq, Lib.hid ⟨z1, z2.one hi' hki ?_, z3⟩, hRq⟩
              rw [← getD_get hi', ← getD_get hk', HZI.out, HZK.out]
              omega
            case measure => simp [intOf]; omega
        · have hin' : i = zs.length := by omega
          have ck : wr.cell? ⟨r, k, none⟩ = some (I (zs.getD k 0)) := by rw [hRq.out.cellAt k (by omega)]; simp [hzl, hkn, List.getD]
          have hk' : k < zs.length := by omega
          have hb := HBD.out (zs.getD k 0) (by rw [getD_get hk']; exact hZ.out.1.1.mem_iff.1 (List.getElem_mem hk'))
          generalize hzk : zs.getD k 0 = zk at ck hb
          have HZK := Lib.hid hzk
          have HIN := Lib.hid hin'
          clear hzk hin' hzl
          go_wp2
          go_roundw
          case rel =>
            obtain ⟨z1, z2, z3⟩ := hZ.out
            rw [HIN.out] at z2
            refine ⟨k + 1, zs, by omega, by omega, by go_num, ?_, by (repeat' (first | assumption | exact Below.refl _ _ | refine Below.drew ?_ | refine below_drewN ?_ _ | refine Below.setCell ?_ (by first | omega | (simp; done) | (simp; omega)) _ | refine Below.alloc ?_ (by first | omega | (simp; done) | (simp; omega)) _ | refine Below.trans ?_ (Below.mono (by assumption) (by first | omega | (simp; done) | (simp; omega))))), hszq, Lib.hid (z1.next z2), hRq⟩
            rw [List.take_succ_eq_append_getElem hk', List.sum_append, z3, ← getD_get hk', HZK.out]
            simp
          case measure => simp [intOf]; omega
    · have hkm : k = min pn n := by omega
      have hS' := hS.out.sum (show k ≤ ys.length by omega)
      have hres : (ys.take k).sum = topS pn xs := by rw [hS', hkm, ← HN.out, topS_min]
      have HRES := Lib.hid hres
      generalize (ys.take k).sum = s0 at *
      clear hkm hS' hres hyl
      rcases (by omega : pn ≤ k ∨ (k < pn ∧ n ≤ k)) with h | ⟨h, h'⟩
      all_goals
        go_wp2
        go_ret
        exact ⟨by rw [HRES.out]; rfl, hBw⟩
end Go.Proofs.Ytilmlgngnbokfaa
