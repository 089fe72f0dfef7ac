/- The fewest posts, of the document. -/
import Derived.Test.YtfebhofihioaoaaA13
import Derived.Test.YtfebhofihioaoaaS30
import Derived.Test.YtfebhofihioaoaaS22
namespace Go.Proofs.Ytfebhofihioaoaa
set_option linter.unusedVariables false
set_option linter.unusedSimpArgs false
open Go Go.RowKit

def P19 (fr : List Int × Int) (w : World) (e : Ending) (w' : World) : Prop := ∃ (B : Option Addr) (d : Nat), e = .returned (.tuple #[.slice B fr.1.length d, I fr.2]) ∧ Ints w' w'.heap.size B fr.1 ∧ Below w.heap.size w w'
theorem below_all {W w' : World} (hF : Frm W.heap.size (fun b => (none : Option Nat) = some b) W w') : Below W.heap.size W w' := hF.below (Nat.le_refl _) fun k _ h => by cases h
set_option maxRecDepth 100000 in
set_option maxHeartbeats 4000000 in
theorem doc19_ok (x : Prk) (A : Option Addr) (c : Nat) (w : World) (hx : PrkOk x) (hA : Fours w w.heap.size A x.sp) (hxl : x.sp.length ≤ 9223372036854775807) :
    Calls Try.prog 19 #[x.val A c] w (P19 (fewR x) w) := by
  have HA : Hid (∀ W, Below w.heap.size w W → Fours W W.heap.size A x.sp) := Lib.hid fun W hW => (hA.below hW).more hW.size
  have HR : Hid (fewR x = match fewV x with | some m => (m.map fun k : Nat => (k : Int), 0) | none => ([], 12)) := Lib.hid (by unfold fewR; rw [prkB_iff.2 hx]; rfl)
  have HFV : Hid (fewV x = (List.range 13).findSome? fun N => fnd (enoughB x) [] x.n N) := Lib.hid rfl
  have HEF : Hid (∀ n, n < 13 → (∀ v, v < n → fnd (enoughB x) [] x.n v = none) → ∀ i (h : i < (vecs x.n n).length), (∀ j (hj : j < i), enoughB x ((vecs x.n n)[j]'(Nat.lt_trans hj h)) = false) → enoughB x (vecs x.n n)[i] = true → fewR x = ((vecs x.n n)[i].map fun k : Nat => (k : Int), 0)) := Lib.hid fun n hn hno i h hj he => by
    have h1 : fnd (enoughB x) [] x.n n = some (vecs x.n n)[i] := by
      rw [fnd_nil, List.find?_eq_some_iff_getElem]
      exact ⟨he, i, h, rfl, fun j hj' => by rw [hj j hj']; rfl⟩
    have h2 : fewV x = some (vecs x.n n)[i] := by rw [HFV.out]; exact range_some hn hno h1
    rw [HR.out, h2]
  have HEN : Hid ((∀ v, v < 13 → fnd (enoughB x) [] x.n v = none) → fewR x = ([], 12)) := Lib.hid fun h => by
    have h2 : fewV x = none := by rw [HFV.out]; exact range_none h
    rw [HR.out, h2]
  have HFN : Hid (∀ n, (∀ i (h : i < (vecs x.n n).length), enoughB x (vecs x.n n)[i] = false) → fnd (enoughB x) [] x.n n = none) := Lib.hid fun n h => by
    rw [fnd_nil, List.find?_eq_none]
    intro m hm
    obtain ⟨i, hi, rfl⟩ := List.mem_iff_getElem.1 hm
    rw [h i hi]
    decide
  have HFW : Hid (∀ n : Nat, (n : Int) < needV x (2 ^ x.n - 1) → fnd (enoughB x) [] x.n n = none) := Lib.hid fun n h => fnd_few h
  have hn6 : x.sp.length ≤ 6 := hx.n6
  obtain ⟨N, hN, hNI, hN1, hN2⟩ := pow_nat hx.n6
  have H44 : Hid (∀ (n : Nat) (W : World), n ≤ 12 → Calls Try.prog 44 #[I x.sp.length, I n, .slice none 0 0, .slice none 0 0] W fun e w' => ∃ v' vs', e = .returned v' ∧ Hid (RowsAt w' W.heap.size v' (vecs x.n n) vs') ∧ Below W.heap.size W w') := Lib.hid fun n W hn => by
    have hv := vecs_len x.n n hn
    have h13 : 13 ^ x.n ≤ 13 ^ 6 := Nat.pow_le_pow_right (by decide) hx.n6
    refine (all44 x.n hx.n6 x.n n hn [] [] [] W W.heap.size (.slice none 0 0) none 0 (by simp) (by simp; omega) (fun h => absurd h (by simp)) (RowsAt.nil _ _) (Nat.le_refl _)).mono ?_
    rintro e w' ⟨v', vs', rfl, h1, h2, h3⟩
    exact ⟨v', vs', rfl, Lib.hid (by simpa using h1), below_all h2⟩
  have HVL : Hid (∀ n, n ≤ 12 → (vecs x.n n).length ≤ 5000000) := Lib.hid fun n hn => by
    have hv := vecs_len x.n n hn
    have h13 : 13 ^ x.n ≤ 13 ^ 6 := Nat.pow_le_pow_right (by decide) hx.n6
    have : (13 : Nat) ^ 6 = 4826809 := by decide
    omega
  have HML : Hid (∀ n i (h : i < (vecs x.n n).length), (vecs x.n n)[i].length = x.sp.length ∧ ∀ W (D : Option Addr) (g : Nat), n ≤ 12 → Fours W W.heap.size A x.sp → Ints W W.heap.size D ((vecs x.n n)[i].map fun k : Nat => (k : Int)) →
      Calls Try.prog 40 #[.agg #[.slice A x.sp.length c, I x.alo, I x.ahi], .slice D x.sp.length g] W fun e w' => ∃ a b : Int, e = .returned (.tuple #[I a, I b]) ∧ Hid (a = 0 ↔ enoughB x (vecs x.n n)[i] = true) ∧ Below W.heap.size W w') := Lib.hid fun n i h => by
    obtain ⟨h1, h2⟩ := (mem_vecs _ _ _).1 (List.getElem_mem h)
    generalize (vecs x.n n)[i] = m at *
    have hl : (m.map fun k : Nat => (k : Int)).length = x.n := by simpa using h1
    refine ⟨h1, fun W D g hn hW hD => ?_⟩
    have hbd : ∀ i, i < x.n → 0 ≤ crF (m.map fun k : Nat => (k : Int)) i ∧ crF (m.map fun k : Nat => (k : Int)) i ≤ 12 := fun i _ => by
      rw [crF_map]
      exact postF_bd (by omega) i
    have h3 := lacking40 x A D c g (m.map fun k : Nat => (k : Int)) W hx hW hD hl hbd
    rw [hl] at h3
    refine h3.mono ?_
    rintro e w' ⟨rfl, hB⟩
    refine ⟨_, _, rfl, Lib.hid ?_, hB⟩
    rw [enoughB_iff, ← enough_congr (crF_map m), ← lack_zero hx]
    omega
  have hnb := needV_bd hx (2 ^ x.n - 1)
  have HC34 : Hid (∀ (W : World), Fours W W.heap.size A x.sp → Calls Try.prog 34 #[.agg #[.slice A x.sp.length c, I x.alo, I x.ahi], I ((N : Int) - 1)] W fun e w' => e = .returned (I (needV x (2 ^ x.n - 1))) ∧ Below W.heap.size W w') := Lib.hid fun W hW => by
    have := need34 x A c (2 ^ x.n - 1) W hx hW (by omega)
    rw [← hN] at this ⊢
    rwa [show (((N - 1 : Nat)) : Int) = (N : Int) - 1 by omega] at this
  have H33 : Hid (∀ W : World, Calls Try.prog 33 #[.agg #[.slice A x.sp.length c, I x.alo, I x.ahi]] W fun e w' => e = .returned (I N) ∧ Below W.heap.size W w') := Lib.hid fun W => by
    have := sets33 x A c W (by omega)
    rwa [show (2 : Int) ^ x.sp.length = (N : Int) from hNI] at this
  have H17 : Hid (∀ W : World, Fours W W.heap.size A x.sp → Calls Try.prog 17 #[.agg #[.slice A x.sp.length c, I x.alo, I x.ahi]] W fun e w' => e = .returned (.bool true) ∧ Below W.heap.size W w') := Lib.hid fun W h => by
    have := park17 x A c W h hxl
    rwa [prkB_iff.2 hx] at this
  clear hA hx hN hNI HR HFV
  simp only [Prk.val]
  generalize needV x (2 ^ x.n - 1) = nv at *
  generalize fewR x = fr at *
  generalize enoughB x = eb at *
  generalize vecs x.n = vc at *
  generalize fnd eb [] x.n = fn at *
  generalize x.alo = al at *
  generalize x.ahi = ah at *
  have HW : Hid (Below w.heap.size w (w.alloc (.cells #[.slice A x.sp.length c, I al, I ah] 26))) := Lib.hid (below1 _ _)
  have HCP : Hid (∀ W, Below (w.heap.size + 1) (w.alloc (.cells #[.slice A x.sp.length c, I al, I ah] 26)) W → W.cell? ⟨w.heap.size, 0, none⟩ = some (.slice A x.sp.length c) ∧ W.cell? ⟨w.heap.size, 1, none⟩ = some (I al) ∧ W.cell? ⟨w.heap.size, 2, none⟩ = some (I ah) ∧ Below w.heap.size w W) := Lib.hid fun W hW =>
    ⟨(hW.cell (p := ⟨_, _, none⟩) (by simp)).trans (by simp [go_sem]), (hW.cell (p := ⟨_, _, none⟩) (by simp)).trans (by simp [go_sem]), (hW.cell (p := ⟨_, _, none⟩) (by simp)).trans (by simp [go_sem]), (below1 w _).trans (hW.mono (by omega))⟩
  have hsz : (w.alloc (.cells #[.slice A x.sp.length c, I al, I ah] 26)).heap.size = w.heap.size + 1 := by simp
  go_enter Try.func19, Try.ntmps19
  go_wp2_with (first
    | (go_at_call 17; refine (H17.out _ (HA.out _ HW.out)).mono ?_; rintro e w1 ⟨rfl, hB1⟩)
    | fail)
  have hb1 : Below (w.heap.size + 1) (w.alloc (.cells #[.slice A x.sp.length c, I al, I ah] 26)) w1 := hB1.mono (by omega)
  have hz1 : w.heap.size + 1 ≤ w1.heap.size := by have := hB1.size; omega
  clear hB1
  go_loopw [4] (fun s4 wr => ∃ n : Nat, n ≤ 13 ∧ s4 = I n ∧ Below (w.heap.size + 1) (w.alloc (.cells #[.slice A x.sp.length c, I al, I ah] 26)) wr ∧ w.heap.size + 1 ≤ wr.heap.size ∧ Hid (∀ v, v < n → fn v = none)) (fun s _ => 13 - (intOf s).toNat)
  case atStart => exact ⟨0, by omega, rfl, hb1, hz1, Lib.hid fun v h => by omega⟩
  case round =>
    clear hb1 hz1
    obtain ⟨n, hn, rfl, hB, hzr, HNO⟩ := hrel
    obtain ⟨c0, c1, c2, hBw⟩ := HCP.out _ hB
    by_cases hlt : n ≤ 12
    · have HCX : Hid (∀ W, Below wr.heap.size wr W → W.cell? ⟨w.heap.size, 0, none⟩ = some (.slice A x.sp.length c) ∧ W.cell? ⟨w.heap.size, 1, none⟩ = some (I al) ∧ W.cell? ⟨w.heap.size, 2, none⟩ = some (I ah) ∧ Fours W W.heap.size A x.sp) := Lib.hid fun W hW =>
        ⟨(hW.cell (p := ⟨w.heap.size, 0, none⟩) (show w.heap.size < _ by omega)).trans c0, (hW.cell (p := ⟨w.heap.size, 1, none⟩) (show w.heap.size < _ by omega)).trans c1, (hW.cell (p := ⟨w.heap.size, 2, none⟩) (show w.heap.size < _ by omega)).trans c2, HA.out W (hBw.trans (hW.mono hBw.size))⟩
      have hwr : IntKind.i64.wrap ((N : Int) - 1) = (N : Int) - 1 := IntWalk.i64_in _ (by omega)
      go_wp2_with (fail)
      refine (wpIn_wide (n := 9)).1 ?_
      refine wpIn_region_valsB [some 16, some 17, some 18, some 19, some 20, some 21, some 22]
        (nthV [I n, .agg #[.slice A x.sp.length c, I al, I ah], .agg #[.slice A x.sp.length c, I al, I ah], I N, I ((N : Int) - 1), I nv, .bool (decide ((n : Int) < nv))])
        [(1, .pointer (some ⟨w.heap.size, 0, none⟩)), (4, I n)]
        (fun W => Below wr.heap.size wr W) rfl (by kernel_rfl) (fun _ => trivial) (by kernel_rfl) (by kernel_rfl) (by kernel_rfl) ⟨rfl, rfl, trivial⟩ (fun _ d _ _ _ h => by cases d <;> exact h) (by first | exact (Below.refl _ _).drew | exact (below_drewN (Below.refl _ _) _).drew) ?_ ?_
      · refine ⟨?_, ?_, ?_, ?_, ?_, ?_, ?_, trivial⟩
        all_goals (intro x0 W hC; obtain ⟨n0, n1, n2, nF⟩ := HCX.out _ hC)
        all_goals first
          | (refine e_no rfl ?_; rfl)
          | (refine e_yes rfl ?_; intro b e hb K hK)
        all_goals first
          | (refine opE_li rfl hb ?_; simp only [execOp, resolve, Oper.about, envB, lookB, lookV, nthV, List.map_toArray, List.map_cons, List.map_nil, Nat.reduceEqDiff, reduceIte, Nat.succ_ne_zero, Nat.zero_ne_one, Nat.one_ne_zero, Nat.reduceAdd, Nat.zero_add]; go_simp; exact hK _ hC)
          | (refine opE_call rfl hb (fun _ => trivial) (fun h => (by cases h)) 33 #[.agg #[.slice A x.sp.length c, I al, I ah]] ?_ ?_
             · (simp only [execOp, resolve, Oper.about, envB, lookB, lookV, nthV, List.map_toArray, List.map_cons, List.map_nil, Nat.reduceEqDiff, reduceIte, Nat.succ_ne_zero, Nat.zero_ne_one, Nat.one_ne_zero, Nat.reduceAdd, Nat.zero_add])
               go_simp
             · refine callsIn_wide.2 ((H33.out _).mono ?_)
               rintro e w6 ⟨rfl, hB6⟩
               exact ⟨_, rfl, hK _ (hC.trans (hB6.mono hC.size))⟩)
          | (refine opE_call rfl hb (fun _ => trivial) (fun h => (by cases h)) 34 #[.agg #[.slice A x.sp.length c, I al, I ah], I ((N : Int) - 1)] ?_ ?_
             · (simp only [execOp, resolve, Oper.about, envB, lookB, lookV, nthV, List.map_toArray, List.map_cons, List.map_nil, Nat.reduceEqDiff, reduceIte, Nat.succ_ne_zero, Nat.zero_ne_one, Nat.one_ne_zero, Nat.reduceAdd, Nat.zero_add])
               go_simp
             · refine callsIn_wide.2 ((HC34.out _ nF).mono ?_)
               rintro e w6 ⟨rfl, hB6⟩
               exact ⟨_, rfl, hK _ (hC.trans (hB6.mono hC.size))⟩)
      · (intro W hC; have HC := Lib.hid hC; clear hC; simp only [putD, nthV, Act.put, List.setIfInBounds_toArray, List.set_cons_succ, List.set_cons_zero, Nat.zero_add, Nat.reduceAdd])
        have hCo := HC.out
        clear HC
        obtain ⟨n0, n1, n2, nF⟩ := HCX.out _ hCo
        have hB2 : Below (w.heap.size + 1) (w.alloc (.cells #[.slice A x.sp.length c, I al, I ah] 26)) W := hB.trans (hCo.mono (by omega))
        have hz2 : w.heap.size + 1 ≤ W.heap.size := by have := hCo.size; omega
        by_cases hfw : (n : Int) < nv
        · have HN2 : Hid (∀ v, v < n + 1 → fn v = none) := Lib.hid fun v hv => by
            rcases Nat.lt_succ_iff_lt_or_eq.1 hv with h | rfl
            · exact HNO.out v h
            · exact HFW.out v hfw
          have hfd : decide ((n : Int) < nv) = true := decide_eq_true hfw
          go_wp2_with (fail)
          go_roundw
          case rel => first | exact ⟨n + 1, by omega, by go_num, hB2, hz2, HN2⟩ | ((repeat apply Exists.intro); refine ⟨?_, rfl⟩; exact ⟨n + 1, by omega, by go_num, hB2, hz2, HN2⟩)
          case measure => first | (simp [intOf]; done) | (simp [intOf]; omega)
        · have hfd : decide ((n : Int) < nv) = false := decide_eq_false hfw
          have hfw2 : nv ≤ (n : Int) := by omega
          have hvl := HVL.out n hlt
          have HEFn := Lib.hid (HEF.out n (by omega) HNO.out)
          have HFNn := Lib.hid (HFN.out n)
          have HMLn := Lib.hid (HML.out n)
          have H44n := Lib.hid (fun W => H44.out n W hlt)
          clear hfw
          generalize vc n = vn at *
          go_wp2_with (first
            | (go_at_call 44; go_must (refine (H44n.out _).mono ?_); rintro e w4 ⟨v', vs', rfl, HRW, hB4⟩)
            | fail)
          have HF4 : Hid (v' = .slice none 0 0 ∧ vn.length = 0 ∨ ∃ g cap, v' = .slice (some ⟨g, 0, none⟩) vn.length cap ∧ W.heap.size ≤ g ∧ g < w4.heap.size ∧ vn.length ≤ cap ∧ cap ≤ 9223372036854775807) := Lib.hid (own_form HRW.out.own)
          obtain ⟨Gp, gcap, rfl⟩ : ∃ Gp gcap, v' = .slice Gp vn.length gcap := by
            rcases HF4.out with ⟨h1, h2⟩ | ⟨g, cap, h1, _⟩
            · exact ⟨none, 0, by rw [h1, h2]⟩
            · exact ⟨_, _, h1⟩
          clear HF4
          have hb4 : Below (w.heap.size + 1) (w.alloc (.cells #[.slice A x.sp.length c, I al, I ah] 26)) w4 := hB2.trans (hB4.mono hz2)
          have hz4 : w.heap.size + 1 ≤ w4.heap.size := by have := hB4.size; omega
          clear hB4
          go_wp2_with (fail)
          go_loopw [6, 7, 8] (fun s6 s7 s8 wr2 => ∃ i : Nat, i ≤ vn.length ∧ s6 = I i ∧ Below w4.heap.size w4 wr2 ∧ Hid (∀ j (h : j < vn.length), j < i → eb vn[j] = false)) (fun s _ _ _ => vn.length - (intOf s).toNat)
          case atStart => exact ⟨0, by omega, rfl, Below.refl _ _, Lib.hid fun j h hj => by omega⟩
          case round =>
            obtain ⟨i, hi, rfl, hBi, HNi⟩ := hrel
            obtain ⟨b0, b1, b2, hBw2⟩ := HCP.out _ (hb4.trans (hBi.mono hz4))
            by_cases hli : i < vn.length
            · obtain ⟨gb, hGe, hgz⟩ : ∃ gb, Gp = some ⟨gb, 0, none⟩ ∧ gb < w4.heap.size := by
                rcases own_form HRW.out.own with ⟨h1, h2⟩ | ⟨g, cap, h1, _, h2, _⟩
                · omega
                · injection h1 with h1 _ _
                  exact ⟨g, h1, h2⟩
              subst hGe
              have HRWi := Lib.hid (HRW.out.below hBi)
              obtain ⟨D, g, hvs, hD⟩ := HRWi.out.row i hli
              have hrow : wr.cell? ⟨gb, i, none⟩ = some (.slice D (vn[i]).length g) := by rw [HRWi.out.own.cellAt i (by omega)]; exact hvs
              obtain ⟨hml, hm40⟩ := HMLn.out i hli
              rw [hml] at hrow
              have HD := Lib.hid hD.ints
              have H40 : Hid (∀ W, Below wr.heap.size wr W → Fours W W.heap.size A x.sp → Calls Try.prog 40 #[.agg #[.slice A x.sp.length c, I al, I ah], .slice D x.sp.length g] W fun e w' => ∃ a b : Int, e = .returned (.tuple #[I a, I b]) ∧ Hid (a = 0 ↔ eb vn[i] = true) ∧ Below W.heap.size W w') := Lib.hid fun W hW h1 => hm40 W D g hlt h1 ((HD.out.below hW).more hW.size)
              have HEi := Lib.hid (HEFn.out i hli)
              have HLN := Lib.hid hml
              have hgr : gb < wr.heap.size := by have := hBi.size; omega
              have HCY : Hid (∀ W, Below wr.heap.size wr W → W.cell? ⟨w.heap.size, 0, none⟩ = some (.slice A x.sp.length c) ∧ W.cell? ⟨w.heap.size, 1, none⟩ = some (I al) ∧ W.cell? ⟨w.heap.size, 2, none⟩ = some (I ah) ∧ Fours W W.heap.size A x.sp ∧ W.cell? ⟨gb, i, none⟩ = some (.slice D x.sp.length g)) := Lib.hid fun W hW =>
                ⟨(hW.cell (p := ⟨w.heap.size, 0, none⟩) (show w.heap.size < _ by have := hBi.size; omega)).trans b0, (hW.cell (p := ⟨w.heap.size, 1, none⟩) (show w.heap.size < _ by have := hBi.size; omega)).trans b1, (hW.cell (p := ⟨w.heap.size, 2, none⟩) (show w.heap.size < _ by have := hBi.size; omega)).trans b2, HA.out W (hBw2.trans (hW.mono hBw2.size)), (hW.cell (p := ⟨gb, i, none⟩) hgr).trans hrow⟩
              have HNI : Hid (eb vn[i] = false → ∀ j (h : j < vn.length), j < i + 1 → eb vn[j] = false) := Lib.hid fun e j h hj => by
                rcases Nat.lt_succ_iff_lt_or_eq.1 hj with h1 | rfl
                · exact HNi.out j h h1
                · exact e
              have HEX : Hid (eb vn[i] = true → fr = (vn[i].map fun k : Nat => (k : Int), 0)) := Lib.hid fun e => HEi.out (fun j hj => HNi.out j (by omega) hj) e
              have p0 : (0 : Int) ≤ (i : Int) := by omega
              have p1 : (i : Int) < (vn.length : Int) := by omega
              clear hvs hD hm40 HEi HNi hml
              generalize vn[i] = m at *
              go_wp2_with (fail)
              refine wp_norm ?_
              refine (wpIn_wide (n := 9)).1 ?_
              refine wpIn_region_plan (Plan.ons [0, 1, 2, 3, 4, 5, 6, 7, 8, 9, 10] .fin) [] (fun _ => True) [] rfl (by kernel_rfl) (by kernel_rfl) (fun _ _ _ _ _ h => by cases h.1) trivial ?_
              obtain ⟨n0, n1, n2, nF, nR⟩ := HCY.out wr (Below.refl _ _)
              have HNF := Lib.hid nF
              clear nF
              iterate 5 (refine ordQ_li rfl rfl rfl (fun K hK => ?_); go_simp; refine hK _ ?_; clear hK K)
              refine ordQ_hv rfl rfl rfl (fun K hK => ?_)
              gi_wp2_with (refine And.intro trivial ?_; gi_at_call 40; refine callsIn_wide.2 ((H40.out _ (Below.refl _ _).drew HNF.out).mono ?_); rintro e w6 ⟨sa, sb, rfl, HSA, hB6⟩)
              have hb6 : Below wr.heap.size wr w6 := by simpa using (Below.refl _ _).drew.trans hB6
              refine hK _ _ (fun _ => trivial) ?_
              clear hK K hB6
              iterate 5 (refine ordQ_li rfl rfl rfl (fun K hK => ?_); go_simp; refine hK _ ?_; clear hK K)
              refine ordQ_fin ?_
              refine ⟨rfl, ?_⟩
              have hB5 : Below w4.heap.size w4 w6 := hBi.trans (hb6.mono (by have := hBi.size; omega))
              obtain ⟨d0, d1, d2, dF, dR⟩ := HCY.out w6 hb6
              by_cases hsa : sa = 0
              · have HFX := Lib.hid (HEX.out (HSA.out.1 hsa))
                have HD6 := Lib.hid ((HD.out.below hb6).more hb6.size)
                have hB7 := hb4.trans (hB5.mono hz4)
                obtain ⟨_, _, _, hBw7⟩ := HCP.out _ hB7
                subst hsa
                go_wp2_with (fail)
                refine bodyPost_ret (v := .tuple #[.slice D x.sp.length g, I 0]) (by simp [results, Try.results19, go_sem]) rfl ⟨D, g, by rw [HFX.out, List.length_map, HLN.out], by rw [HFX.out]; exact HD6.out, hBw7⟩
              · have HN2 := Lib.hid (HNI.out (bool_false fun h => hsa (HSA.out.2 h)))
                have hsb : (sa == 0) = false := by simpa using hsa
                clear hsa
                go_wp2_with (fail)
                go_roundw
                case rel => first | exact ⟨i + 1, by omega, by go_num, hB5, HN2⟩ | ((repeat apply Exists.intro); refine ⟨?_, rfl⟩; exact ⟨i + 1, by omega, by go_num, hB5, HN2⟩)
                case measure => first | (simp [intOf]; done) | (simp [intOf]; omega)
            · obtain rfl : i = vn.length := by omega
              have HFE := Lib.hid (HFNn.out fun j h => HNi.out j h h)
              have HN2 : Hid (∀ v, v < n + 1 → fn v = none) := Lib.hid fun v hv => by
                rcases Nat.lt_succ_iff_lt_or_eq.1 hv with h | rfl
                · exact HNO.out v h
                · exact HFE.out
              have hB3 := hb4.trans (hBi.mono hz4)
              have hz3 : w.heap.size + 1 ≤ wr.heap.size := by have := hBi.size; omega
              go_wp2_with (fail)
              go_roundw
              case rel => first | exact ⟨n + 1, by omega, by go_num, hB3, hz3, HN2⟩ | ((repeat apply Exists.intro); refine ⟨?_, rfl⟩; exact ⟨n + 1, by omega, by go_num, hB3, hz3, HN2⟩)
              case measure => first | (simp [intOf]; done) | (simp [intOf]; omega)
    · obtain rfl : n = 13 := by omega
      have HFE := Lib.hid (HEN.out HNO.out)
      go_wp2_with (fail)
      refine bodyPost_ret (v := .tuple #[.slice none 0 0, I 12]) (by simp [results, Try.results19, go_sem]) rfl ⟨none, 0, by rw [HFE.out]; rfl, by rw [HFE.out]; exact fun h => absurd h (by simp), hBw⟩
theorem fewR_len (x : Prk) : (fewR x).1.length ≤ 9223372036854775807 := by
  unfold fewR
  split
  · cases h : fewV x with
    | none => simp
    | some m =>
      have := (fewV_some h).len
      rename_i hp
      have h6 := (prkB_iff.1 hp).n6
      simp only [List.length_map]
      omega
  · simp
theorem doc19 (x : Prk) (A : Option Addr) (c : Nat) (w : World) (hA : Fours w w.heap.size A x.sp) (hxl : x.sp.length ≤ 9223372036854775807) :
    Calls Try.prog 19 #[x.val A c] w fun e w' => ∃ (B : Option Addr) (d : Nat), e = .returned (.tuple #[.slice B (fewR x).1.length d, I (fewR x).2]) ∧ Ints w' w'.heap.size B (fewR x).1 ∧ Below w.heap.size w w' := by
  cases hp : prkB x
  · have hr : fewR x = ([], 1) := by unfold fewR; rw [hp]; rfl
    rw [hr]
    have H17 : Hid (∀ W : World, Fours W W.heap.size A x.sp → Calls Try.prog 17 #[.agg #[.slice A x.sp.length c, I x.alo, I x.ahi]] W fun e w' => e = .returned (.bool false) ∧ Below W.heap.size W w') := Lib.hid fun W h => by
      have := park17 x A c W h hxl
      rwa [hp] at this
    have HF : Hid (Fours (w.alloc (.cells #[.slice A x.sp.length c, I x.alo, I x.ahi] 26)) (w.alloc (.cells #[.slice A x.sp.length c, I x.alo, I x.ahi] 26)).heap.size A x.sp) := Lib.hid ((hA.below (below1 _ _)).more (by simp))
    clear hA hp hr
    simp only [Prk.val]
    generalize x.alo = al at *
    generalize x.ahi = ah at *
    have H : Calls Try.prog 19 #[.agg #[.slice A x.sp.length c, I al, I ah]] w (P19 ([], 1) w) := by
      go_enter Try.func19, Try.ntmps19
      go_wp2_with (first
        | (go_at_call 17; refine (H17.out _ HF.out).mono ?_; rintro e w1 ⟨rfl, hB1⟩)
        | fail)
      refine bodyPost_ret (v := .tuple #[.slice none 0 0, I 1]) (by simp [results, Try.results19, go_sem]) rfl ⟨none, 0, rfl, fun h => absurd h (by simp), (below1 w _).trans (hB1.mono (by simp))⟩
    exact H
  · exact doc19_ok x A c w (prkB_iff.1 hp) hA hxl
end Go.Proofs.Ytfebhofihioaoaa
