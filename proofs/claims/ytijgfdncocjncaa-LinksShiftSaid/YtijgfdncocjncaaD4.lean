/- The document's refuted. -/
import Derived.Test.YtijgfdncocjncaaD3
namespace Go.Proofs.Ytijgfdncocjncaa
set_option linter.unusedVariables false
set_option linter.unusedSimpArgs false
open Go Go.RowKit

def folA (x : Wat) (f t i k : Nat) : Bool := (List.range k).any fun j => folB x f t j i
theorem folA_succ (x : Wat) (f t i k : Nat) : folA x f t i (k + 1) = (folA x f t i k || folB x f t k i) := by
  unfold folA
  rw [List.range_succ, List.any_append]
  simp
theorem refB_def (x : Wat) (f t a : Nat) : refB x f t a = ((x.sp a == (f : Int)) && (decide (x.tm a + x.dh t ≤ x.en) && !folA x f t a x.er.length)) := rfl
theorem ref_some {x : Wat} {f t i : Nat} (hi : i < x.er.length) (h : ∀ j, j < i → refB x f t j = false) (h2 : refB x f t i = true) : ref x f t = some i := by
  unfold ref
  rw [List.find?_range_eq_some]
  exact ⟨h2, List.mem_range.2 hi, fun j hj => by rw [h j hj]; rfl⟩
theorem ref_none {x : Wat} {f t : Nat} (h : ∀ j, j < x.er.length → refB x f t j = false) : ref x f t = none := by
  unfold ref
  rw [List.find?_eq_none]
  intro j hj h2
  rw [h j (List.mem_range.1 hj)] at h2
  cases h2
set_option maxRecDepth 100000 in
set_option maxHeartbeats 8000000 in
theorem refuted32 (x : Wat) (A B : Option Addr) (c d : Nat) (f t : Nat) (w : World) (hx : WatOk x) (hW : WatAt w x A B) (ht : t < x.hb.length) :
    Calls Try.prog 32 #[x.val A c B d, .agg #[I f, I t]] w fun e w' => e = .returned (I (optI (ref x f t))) ∧ Below w.heap.size w w' := by
  have hm64 : x.er.length ≤ 64 := hx.m64
  have hn6 : x.hb.length ≤ 6 := hx.n6
  obtain ⟨hb_, ho, rfl, hhz, hhc⟩ := hW.hb (by omega)
  obtain ⟨_, _, _, k3⟩ := hhc t ht
  rw [hb_get x ht] at k3
  dsimp only at k3
  have hdel := (hx.hab t ht).del
  have hen := hx.en
  have HWA : Hid (∀ W, Below w.heap.size w W → WatAt W x (some ⟨hb_, ho, none⟩) B) := Lib.hid fun W h => hW.below h
  have H49 : Hid (∀ (W : World) (k i : Nat), Below w.heap.size w W → k < x.er.length → i < x.er.length → Calls Try.prog 49 #[x.val (some ⟨hb_, ho, none⟩) c B d, .agg #[I f, I t], I k, I i] W fun e w' => e = .returned (.bool (folB x f t k i)) ∧ Below W.heap.size W w') := Lib.hid fun W k i h hk hi => follows49 x (some ⟨hb_, ho, none⟩) B c d f t k i W hx (hW.below h) hi hk ht
  have HTM : Hid (∀ k, k < x.er.length → 0 ≤ x.tm k ∧ x.tm k ≤ x.en) := Lib.hid fun k hk => (hx.eru k hk).tm
  have HER : Hid (∀ k (h : k < x.er.length), x.er[k].1 = x.sp k ∧ x.er[k].2 = x.tm k) := Lib.hid fun k h => by rw [er_get x h]; exact ⟨rfl, rfl⟩
  have HRD : Hid (∀ a, refB x f t a = ((x.sp a == (f : Int)) && (decide (x.tm a + x.dh t ≤ x.en) && !folA x f t a x.er.length))) := Lib.hid fun a => refB_def x f t a
  have HRS : Hid (∀ i, i < x.er.length → (∀ j, j < i → refB x f t j = false) → refB x f t i = true → ref x f t = some i) := Lib.hid fun i h1 h2 h3 => ref_some h1 h2 h3
  have HRN : Hid ((∀ j, j < x.er.length → refB x f t j = false) → ref x f t = none) := Lib.hid fun h => ref_none h
  have HFS : Hid (∀ i k, folA x f t i (k + 1) = (folA x f t i k || folB x f t k i)) := Lib.hid fun i k => folA_succ x f t i k
  have HF0 : Hid (∀ i, folA x f t i 0 = false) := Lib.hid fun i => rfl
  generalize x.dh t = dh at *
  generalize ref x f t = rf at *
  clear hhc hx hW
  unfold Wat.val at H49 ⊢
  obtain ⟨en, hen2⟩ : ∃ en, x.en = en := ⟨_, rfl⟩
  rw [hen2] at H49 hen HTM HRD ⊢
  have HEN := Lib.hid hen2
  clear hen2
  have HB0 : Hid (Below w.heap.size w ((w.alloc (.cells #[.slice (some ⟨hb_, ho, none⟩) x.hb.length c, .slice B x.er.length d, I en] 25)).alloc (.cells #[I f, I t] 27))) := Lib.hid (by (repeat' (first | assumption | exact Below.refl _ _ | refine Below.drew ?_ | refine below_drewN ?_ _ | refine Below.setCell ?_ (by first | omega | (simp; done) | (simp; omega)) _ | refine Below.alloc ?_ (by first | omega | (simp; done) | (simp; omega)) _ | refine Below.trans ?_ (Below.mono (by assumption) (by first | omega | (simp; done) | (simp; omega))))))
  have HX0 : Hid (Box ((w.alloc (.cells #[.slice (some ⟨hb_, ho, none⟩) x.hb.length c, .slice B x.er.length d, I en] 25)).alloc (.cells #[I f, I t] 27)) w.heap.size [.slice (some ⟨hb_, ho, none⟩) x.hb.length c, .slice B x.er.length d, I en]) := Lib.hid ((Box.new w [.slice (some ⟨hb_, ho, none⟩) x.hb.length c, .slice B x.er.length d, I en] 25).alloc _)
  have HL0 : Hid (Box ((w.alloc (.cells #[.slice (some ⟨hb_, ho, none⟩) x.hb.length c, .slice B x.er.length d, I en] 25)).alloc (.cells #[I f, I t] 27)) (w.heap.size + 1) [I f, I t]) := Lib.hid (by have := Box.new (w.alloc (.cells #[.slice (some ⟨hb_, ho, none⟩) x.hb.length c, .slice B x.er.length d, I en] 25)) [I f, I t] 27; simpa only [World.size_alloc] using this)
  have HZ0 : Hid (((w.alloc (.cells #[.slice (some ⟨hb_, ho, none⟩) x.hb.length c, .slice B x.er.length d, I en] 25)).alloc (.cells #[I f, I t] 27)).heap.size = w.heap.size + 2) := Lib.hid (by simp)
  go_enter Try.func32, Try.ntmps32
  go_wp2_with (fail)
  generalize (w.alloc (.cells #[.slice (some ⟨hb_, ho, none⟩) x.hb.length c, .slice B x.er.length d, I en] 25)).alloc (.cells #[I f, I t] 27) = wa at *
  have hza := HZ0.out
  have HCE : Hid (∀ W, Below wa.heap.size wa W → Below w.heap.size w W ∧ Box W w.heap.size [.slice (some ⟨hb_, ho, none⟩) x.hb.length c, .slice B x.er.length d, I en] ∧ Box W (w.heap.size + 1) [I f, I t] ∧ W.cell? ⟨hb_, ho + t * 4 + 3, none⟩ = some (I dh)) := Lib.hid fun W hB => ⟨HB0.out.trans (hB.mono (by omega)), HX0.out.call hB, HL0.out.call hB, ((HB0.out.trans (hB.mono (by omega))).cell (p := ⟨hb_, _, none⟩) hhz).trans k3⟩
  clear k3
  have t0 : (0 : Int) ≤ (t : Int) := by omega
  have t1 : (t : Int) < (x.hb.length : Int) := by omega
  go_loopw [5] (fun s wr => ∃ i : Nat, i ≤ x.er.length ∧ s = I i ∧ Below wa.heap.size wa wr ∧ Hid (∀ j, j < i → refB x f t j = false)) (fun s _ => x.er.length - (intOf s).toNat)
  case atStart => exact ⟨0, by omega, rfl, Below.refl _ _, Lib.hid fun j h => by omega⟩
  case round =>
    obtain ⟨i, hi, rfl, hB, HA⟩ := hrel
    have hzr := hB.size
    obtain ⟨hbw, hbx, hbl, hbk⟩ := HCE.out _ hB
    obtain ⟨c1, _⟩ := hbx.at_ 1 _ rfl
    have hX1 : w.heap.size < wr.heap.size := by omega
    by_cases hlt : i < x.er.length
    · obtain ⟨eb, eo, rfl, hez, hec⟩ := (HWA.out _ hbw).er (by omega)
      obtain ⟨e0, e1⟩ := hec i hlt
      rw [(HER.out i hlt).1] at e0
      rw [(HER.out i hlt).2] at e1
      have hti := HTM.out i hlt
      have HRDi := Lib.hid (HRD.out i)
      have HRSi := Lib.hid (HRS.out i hlt HA.out)
      have HAS := Lib.hid fun h => lt_snoc (p := fun j => refB x f t j = false) HA.out h
      have p0 : (0 : Int) ≤ (i : Int) := by omega
      have p1 : (i : Int) < (x.er.length : Int) := by omega
      generalize x.sp i = spi at *
      generalize x.tm i = tmi at *
      have hwv : IntKind.i64.wrap (tmi + dh) = tmi + dh := IntWalk.i64_in _ (by omega)
      have HB5 : Hid (Below wa.heap.size wa (wr.alloc (.cells #[I spi, I tmi] 50))) := Lib.hid (hB.alloc hzr _)
      have HE5 : Hid (Box (wr.alloc (.cells #[I spi, I tmi] 50)) wr.heap.size [I spi, I tmi]) := Lib.hid (Box.new wr [I spi, I tmi] 50)
      have HZ5 : Hid ((wr.alloc (.cells #[I spi, I tmi] 50)).heap.size = wr.heap.size + 1) := Lib.hid (by simp)
      clear hec HA
      go_wp2_with (fail)
      clear e0 e1 c1
      generalize wr.alloc (.cells #[I spi, I tmi] 50) = w5 at *
      have hz5 := HZ5.out
      have HC5 : Hid (∀ W, Below w5.heap.size w5 W → W.cell? ⟨w.heap.size, 0, none⟩ = some (.slice (some ⟨hb_, ho, none⟩) x.hb.length c) ∧ W.cell? ⟨w.heap.size, 2, none⟩ = some (I en) ∧ W.cell? ⟨w.heap.size + 1, 0, none⟩ = some (I f) ∧ W.cell? ⟨w.heap.size + 1, 1, none⟩ = some (I t) ∧ W.cell? ⟨wr.heap.size, 0, none⟩ = some (I spi) ∧ W.cell? ⟨wr.heap.size, 1, none⟩ = some (I tmi) ∧ W.cell? ⟨hb_, ho + t * 4 + 3, none⟩ = some (I dh)) := Lib.hid fun W hW => by
        obtain ⟨_, q1, q2, q3⟩ := HCE.out W (HB5.out.trans (hW.mono (by omega)))
        exact ⟨(q1.at_ 0 _ rfl).1, (q1.at_ 2 _ rfl).1, (q2.at_ 0 _ rfl).1, (q2.at_ 1 _ rfl).1, ((HE5.out.call hW).at_ 0 _ rfl).1, ((HE5.out.call hW).at_ 1 _ rfl).1, q3⟩
      cases e1 : (spi == (f : Int))
      · rw [e1] at HRDi
        have en1 : (spi != (f : Int)) = true := by rw [show (spi != (f : Int)) = !(spi == (f : Int)) from rfl, e1]; rfl
        have HS := Lib.hid (HAS.out (by rw [HRDi.out]; rfl))
        refine (wpIn_wide (n := 9)).1 ?_
        refine wpIn_region_valsB [some 21, some 22, some 23, some 24, some 25, some 26, some 27, some 28, some 29, some 30, some 31, some 32, some 33, some 34, some 35, some 36, some 37, some 38, some 39, some 40, some 41]
          (nthV [.pointer (some ⟨wr.heap.size, 0, none⟩), I spi, .pointer (some ⟨w.heap.size + 1, 0, none⟩), I f, .bool true, .bool true, undef, undef, undef, undef, undef, undef, undef, undef, undef, undef, undef, undef, undef, undef, .bool true])
          [(6, .pointer (some ⟨wr.heap.size, 0, none⟩)), (3, .pointer (some ⟨w.heap.size + 1, 0, none⟩)), (2, .pointer (some ⟨w.heap.size, 0, none⟩))]
          (fun W => Below w5.heap.size w5 W) rfl (by kernel_rfl) (fun _ => trivial) (by kernel_rfl) (by kernel_rfl) (by kernel_rfl) ⟨rfl, rfl, rfl, trivial⟩ (fun _ d _ _ _ h => by cases d <;> exact h) (by first | exact (Below.refl _ _).drew | exact (below_drewN (Below.refl _ _) _).drew) ?_ ?_
        · refine ⟨?_, ?_, ?_, ?_, ?_, ?_, ?_, ?_, ?_, ?_, ?_, ?_, ?_, ?_, ?_, ?_, ?_, ?_, ?_, ?_, ?_, trivial⟩
          all_goals (intro x0 W hC; obtain ⟨x0_, x2_, l0, l1, n0, n1, k3⟩ := HC5.out _ hC)
          all_goals first
            | (refine e_no rfl ?_; rfl)
            | (refine e_yes rfl ?_; intro b e hb K hK)
          all_goals first
            | (refine opE_li rfl hb ?_; simp only [execOp, resolve, Oper.about, envB, lookB, lookV, nthV, List.map_toArray, List.map_cons, List.map_nil, Nat.reduceEqDiff, reduceIte, Nat.succ_ne_zero, Nat.zero_ne_one, Nat.one_ne_zero, Nat.reduceAdd, Nat.zero_add]; go_simp; exact hK _ hC)
        · (intro W hC; have HC := Lib.hid hC; clear hC; simp only [putD, nthV, Act.put, List.setIfInBounds_toArray, List.set_cons_succ, List.set_cons_zero, Nat.zero_add, Nat.reduceAdd])
          have hCo := HC.out
          clear HC
          go_wp2_with (fail)
          go_roundw
          case rel => first | exact ⟨i + 1, by omega, by go_num, HB5.out.trans (hCo.mono (by omega)), HS⟩ | ((repeat apply Exists.intro); refine ⟨?_, rfl⟩; exact ⟨i + 1, by omega, by go_num, HB5.out.trans (hCo.mono (by omega)), HS⟩)
          case measure => first | (simp [intOf]; done) | (simp [intOf]; omega)
      · rw [e1] at HRDi
        have en1 : (spi != (f : Int)) = false := by rw [show (spi != (f : Int)) = !(spi == (f : Int)) from rfl, e1]; rfl
        cases e2 : decide (tmi + dh ≤ en)
        · rw [e2] at HRDi
          have en2 : decide (en < tmi + dh) = true := by
            have := of_decide_eq_false e2
            exact decide_eq_true (by omega)
          have HS := Lib.hid (HAS.out (by rw [HRDi.out]; rfl))
          refine (wpIn_wide (n := 9)).1 ?_
          refine wpIn_region_valsB [some 21, some 22, some 23, some 24, some 25, some 26, some 27, some 28, some 29, some 30, some 31, some 32, some 33, some 34, some 35, some 36, some 37, some 38, some 39, some 40, some 41]
            (nthV [.pointer (some ⟨wr.heap.size, 0, none⟩), I spi, .pointer (some ⟨w.heap.size + 1, 0, none⟩), I f, .bool false, .bool false, .pointer (some ⟨wr.heap.size, 1, none⟩), I tmi, .pointer (some ⟨w.heap.size, 0, none⟩), .slice (some ⟨hb_, ho, none⟩) x.hb.length c, .pointer (some ⟨w.heap.size + 1, 1, none⟩), I t, .pointer (some ⟨hb_, ho + t * 4, none⟩), .pointer (some ⟨hb_, ho + t * 4 + 2, none⟩), .pointer (some ⟨hb_, ho + t * 4 + 3, none⟩), I dh, I (tmi + dh), .pointer (some ⟨w.heap.size, 2, none⟩), I en, .bool true, .bool true])
            [(6, .pointer (some ⟨wr.heap.size, 0, none⟩)), (3, .pointer (some ⟨w.heap.size + 1, 0, none⟩)), (2, .pointer (some ⟨w.heap.size, 0, none⟩))]
            (fun W => Below w5.heap.size w5 W) rfl (by kernel_rfl) (fun _ => trivial) (by kernel_rfl) (by kernel_rfl) (by kernel_rfl) ⟨rfl, rfl, rfl, trivial⟩ (fun _ d _ _ _ h => by cases d <;> exact h) (by first | exact (Below.refl _ _).drew | exact (below_drewN (Below.refl _ _) _).drew) ?_ ?_
          · refine ⟨?_, ?_, ?_, ?_, ?_, ?_, ?_, ?_, ?_, ?_, ?_, ?_, ?_, ?_, ?_, ?_, ?_, ?_, ?_, ?_, ?_, trivial⟩
            all_goals (intro x0 W hC; obtain ⟨x0_, x2_, l0, l1, n0, n1, k3⟩ := HC5.out _ hC)
            all_goals first
              | (refine e_no rfl ?_; rfl)
              | (refine e_yes rfl ?_; intro b e hb K hK)
            all_goals first
              | (refine opE_li rfl hb ?_; simp only [execOp, resolve, Oper.about, envB, lookB, lookV, nthV, List.map_toArray, List.map_cons, List.map_nil, Nat.reduceEqDiff, reduceIte, Nat.succ_ne_zero, Nat.zero_ne_one, Nat.one_ne_zero, Nat.reduceAdd, Nat.zero_add]; go_simp; exact hK _ hC)
          · (intro W hC; have HC := Lib.hid hC; clear hC; simp only [putD, nthV, Act.put, List.setIfInBounds_toArray, List.set_cons_succ, List.set_cons_zero, Nat.zero_add, Nat.reduceAdd])
            have hCo := HC.out
            clear HC
            go_wp2_with (fail)
            go_roundw
            case rel => first | exact ⟨i + 1, by omega, by go_num, HB5.out.trans (hCo.mono (by omega)), HS⟩ | ((repeat apply Exists.intro); refine ⟨?_, rfl⟩; exact ⟨i + 1, by omega, by go_num, HB5.out.trans (hCo.mono (by omega)), HS⟩)
            case measure => first | (simp [intOf]; done) | (simp [intOf]; omega)
        · rw [e2] at HRDi
          have en2 : decide (en < tmi + dh) = false := by
            have := of_decide_eq_true e2
            exact decide_eq_false (by omega)
          refine (wpIn_wide (n := 9)).1 ?_
          refine wpIn_region_valsB [some 21, some 22, some 23, some 24, some 25, some 26, some 27, some 28, some 29, some 30, some 31, some 32, some 33, some 34, some 35, some 36, some 37, some 38, some 39, some 40, some 41]
            (nthV [.pointer (some ⟨wr.heap.size, 0, none⟩), I spi, .pointer (some ⟨w.heap.size + 1, 0, none⟩), I f, .bool false, .bool false, .pointer (some ⟨wr.heap.size, 1, none⟩), I tmi, .pointer (some ⟨w.heap.size, 0, none⟩), .slice (some ⟨hb_, ho, none⟩) x.hb.length c, .pointer (some ⟨w.heap.size + 1, 1, none⟩), I t, .pointer (some ⟨hb_, ho + t * 4, none⟩), .pointer (some ⟨hb_, ho + t * 4 + 2, none⟩), .pointer (some ⟨hb_, ho + t * 4 + 3, none⟩), I dh, I (tmi + dh), .pointer (some ⟨w.heap.size, 2, none⟩), I en, .bool false, .bool false])
            [(6, .pointer (some ⟨wr.heap.size, 0, none⟩)), (3, .pointer (some ⟨w.heap.size + 1, 0, none⟩)), (2, .pointer (some ⟨w.heap.size, 0, none⟩))]
            (fun W => Below w5.heap.size w5 W) rfl (by kernel_rfl) (fun _ => trivial) (by kernel_rfl) (by kernel_rfl) (by kernel_rfl) ⟨rfl, rfl, rfl, trivial⟩ (fun _ d _ _ _ h => by cases d <;> exact h) (by first | exact (Below.refl _ _).drew | exact (below_drewN (Below.refl _ _) _).drew) ?_ ?_
          · refine ⟨?_, ?_, ?_, ?_, ?_, ?_, ?_, ?_, ?_, ?_, ?_, ?_, ?_, ?_, ?_, ?_, ?_, ?_, ?_, ?_, ?_, trivial⟩
            all_goals (intro x0 W hC; obtain ⟨x0_, x2_, l0, l1, n0, n1, k3⟩ := HC5.out _ hC)
            all_goals first
              | (refine e_no rfl ?_; rfl)
              | (refine e_yes rfl ?_; intro b e hb K hK)
            all_goals first
              | (refine opE_li rfl hb ?_; simp only [execOp, resolve, Oper.about, envB, lookB, lookV, nthV, List.map_toArray, List.map_cons, List.map_nil, Nat.reduceEqDiff, reduceIte, Nat.succ_ne_zero, Nat.zero_ne_one, Nat.one_ne_zero, Nat.reduceAdd, Nat.zero_add]; go_simp; exact hK _ hC)
          · (intro W hC; have HC := Lib.hid hC; clear hC; simp only [putD, nthV, Act.put, List.setIfInBounds_toArray, List.set_cons_succ, List.set_cons_zero, Nat.zero_add, Nat.reduceAdd])
            have hCo := HC.out
            clear HC
            have HBo : Hid (Below wa.heap.size wa W) := Lib.hid (HB5.out.trans (hCo.mono (by omega)))
            have hzo := HBo.out.size
            go_wp2_with (fail)
            go_loopw [7, 8] (fun s7 s8 wi => ∃ k : Nat, k ≤ x.er.length ∧ s8 = I k ∧ s7 = .bool (folA x f t i k) ∧ Below wa.heap.size wa wi) (fun _ s _ => x.er.length - (intOf s).toNat)
            case atStart => exact ⟨0, by omega, rfl, by rw [HF0.out], HBo.out⟩
            case round =>
              obtain ⟨k, hk, rfl, rfl, hBi⟩ := hrel
              have hzi := hBi.size
              obtain ⟨hbwi, hbxi, hbli, _⟩ := HCE.out _ hBi
              obtain ⟨c0, _⟩ := hbxi.at_ 0 _ rfl
              obtain ⟨c1, _⟩ := hbxi.at_ 1 _ rfl
              obtain ⟨c2, _⟩ := hbxi.at_ 2 _ rfl
              obtain ⟨l0, _⟩ := hbli.at_ 0 _ rfl
              obtain ⟨l1, _⟩ := hbli.at_ 1 _ rfl
              by_cases hlk : k < x.er.length
              · have H49k := Lib.hid (H49.out wr k i hbwi hlk hlt)
                have HFk := Lib.hid (HFS.out i k)
                have q0 : (0 : Int) ≤ (k : Int) := by omega
                have q1 : (k : Int) < (x.er.length : Int) := by omega
                generalize folB x f t k i = fb at *
                obtain ⟨fo, hfo⟩ : ∃ fo, folA x f t i k = fo := ⟨_, rfl⟩
                rw [hfo] at HFk ⊢
                clear hfo
                cases fo
                · have HFF : Hid (folA x f t i (k + 1) = fb) := Lib.hid (by rw [HFk.out, Bool.false_or])
                  go_wp2_with (first | (go_at_call 49; refine H49k.out.mono ?_; rintro e w3 ⟨rfl, hB3⟩) | fail)
                  go_roundw
                  case rel => first | exact ⟨k + 1, by omega, by go_num, by rw [HFF.out], hBi.trans (hB3.mono hzi)⟩ | ((repeat apply Exists.intro); refine ⟨?_, rfl⟩; exact ⟨k + 1, by omega, by go_num, by rw [HFF.out], hBi.trans (hB3.mono hzi)⟩)
                  case measure => first | (simp [intOf]; done) | (simp [intOf]; omega)
                · have HFF : Hid (folA x f t i (k + 1) = true) := Lib.hid (by rw [HFk.out, Bool.true_or])
                  go_wp2_with (fail)
                  go_roundw
                  case rel => first | exact ⟨k + 1, by omega, by go_num, by rw [HFF.out], hBi⟩ | ((repeat apply Exists.intro); refine ⟨?_, rfl⟩; exact ⟨k + 1, by omega, by go_num, by rw [HFF.out], hBi⟩)
                  case measure => first | (simp [intOf]; done) | (simp [intOf]; omega)
              · obtain rfl : k = x.er.length := by omega
                obtain ⟨fo, hfo⟩ : ∃ fo, folA x f t i x.er.length = fo := ⟨_, rfl⟩
                rw [hfo] at HRDi ⊢
                clear hfo
                cases fo
                · have HR := Lib.hid (HRSi.out (by rw [HRDi.out]; rfl))
                  go_wp2_with (fail)
                  refine bodyPost_ret (v := I i) (by simp [results, Try.results32, go_sem]) rfl ⟨by rw [HR.out]; rfl, hbwi⟩
                · have HS := Lib.hid (HAS.out (by rw [HRDi.out]; rfl))
                  go_wp2_with (fail)
                  go_roundw
                  case rel => first | exact ⟨i + 1, by omega, by go_num, hBi, HS⟩ | ((repeat apply Exists.intro); refine ⟨?_, rfl⟩; exact ⟨i + 1, by omega, by go_num, hBi, HS⟩)
                  case measure => first | (simp [intOf]; done) | (simp [intOf]; omega)
    · have HR := Lib.hid (HRN.out fun j h => HA.out j (by omega))
      go_wp2_with (fail)
      refine bodyPost_ret (v := I (-1)) (by simp [results, Try.results32, go_sem]) rfl ⟨by rw [HR.out]; rfl, hbw⟩
end Go.Proofs.Ytijgfdncocjncaa
