/- The document's Needs. -/
import Derived.Test.YtijgfdncocjncaaD4
namespace Go.Proofs.Ytijgfdncocjncaa
set_option linter.unusedVariables false
set_option linter.unusedSimpArgs false
open Go Go.RowKit

theorem prevTo_succ (x : Wat) (s : Int) (k : Nat) : prevTo x s (k + 1) = if x.sp k = s then (k : Int) else prevTo x s k := rfl
set_option maxRecDepth 100000 in
set_option maxHeartbeats 8000000 in
theorem needs37 (x : Wat) (A B : Option Addr) (c d : Nat) (i : Nat) (w : World) (hx : WatOk x) (hW : WatAt w x A B) (hi : i < x.er.length) :
    Calls Try.prog 37 #[x.val A c B d, I i] w fun e w' => e = .returned (.bool (needB x i)) ∧ Below w.heap.size w w' := by
  have hm64 : x.er.length ≤ 64 := hx.m64
  have hn6 : x.hb.length ≤ 6 := hx.n6
  obtain ⟨q, hq, hqn⟩ : ∃ q : Nat, x.sp i = (q : Int) ∧ q < x.hb.length := by
    have h := (hx.eru i hi).sp
    have h2 : (x.n : Int) = x.hb.length := rfl
    exact ⟨(x.sp i).toNat, by omega, by omega⟩
  obtain ⟨hb_, ho, rfl, hhz, hhc⟩ := hW.hb (by omega)
  obtain ⟨k0, k1, _, _⟩ := hhc q hqn
  rw [hb_get x hqn] at k0 k1
  obtain ⟨eb, eo, rfl, hez, hec⟩ := hW.er (by omega)
  obtain ⟨ei0, ei1⟩ := hec i hi
  rw [er_get x hi] at ei0 ei1
  dsimp only at k0 k1 ei0 ei1
  have hen := hx.en
  have hti := (hx.eru i hi).tm
  have HTM : Hid (∀ k, k < x.er.length → 0 ≤ x.tm k ∧ x.tm k ≤ x.en) := Lib.hid fun k hk => (hx.eru k hk).tm
  have HEC : Hid (∀ k, k < x.er.length → w.cell? ⟨eb, eo + k * 2, none⟩ = some (I (x.sp k)) ∧ w.cell? ⟨eb, eo + k * 2 + 1, none⟩ = some (I (x.tm k))) := Lib.hid fun k hk => by
    have h := hec k hk
    rw [er_get x hk] at h
    exact h
  have HND : Hid (needB x i = (decide (0 ≤ prevTo x q i) && !inB (x.tm i - x.tm (prevTo x q i).toNat) (x.ol q) (x.oh q))) := Lib.hid (by unfold needB; rw [hq, Int.toNat_natCast])
  have HPS : Hid (∀ k, prevTo x q (k + 1) = if x.sp k = (q : Int) then (k : Int) else prevTo x q k) := Lib.hid fun k => prevTo_succ x q k
  have HPL : Hid (∀ k, -1 ≤ prevTo x q k ∧ prevTo x q k < k) := Lib.hid fun k => prevTo_lt x q k
  have HP0 : Hid (prevTo x q 0 = -1) := Lib.hid rfl
  rw [hq] at ei0
  generalize x.ol q = ol at *
  generalize x.oh q = oh at *
  generalize x.tm i = tmi at *
  have H50 : Hid (∀ (v : Int) (W : World), Calls Try.prog 50 #[.agg #[I ol, I oh], I v] W fun e w' => e = .returned (.bool (inB v ol oh)) ∧ Below W.heap.size W w') := Lib.hid fun v W => has50 _ _ _ W
  clear hhc hec hx hW hq
  unfold Wat.val
  obtain ⟨en, hen2⟩ : ∃ en, x.en = en := ⟨_, rfl⟩
  rw [hen2] at hen HTM hti ⊢
  clear hen2
  have p0 : (0 : Int) ≤ (i : Int) := by omega
  have p1 : (i : Int) < (x.er.length : Int) := by omega
  have q0 : (0 : Int) ≤ (q : Int) := by omega
  have q1 : (q : Int) < (x.hb.length : Int) := by omega
  have HB0 : Hid (Below w.heap.size w ((w.alloc (.cells #[.slice (some ⟨hb_, ho, none⟩) x.hb.length c, .slice (some ⟨eb, eo, none⟩) x.er.length d, I en] 25)).alloc (.cells #[I q, I tmi] 50))) := Lib.hid (by (repeat' (first | assumption | exact Below.refl _ _ | refine Below.drew ?_ | refine below_drewN ?_ _ | refine Below.setCell ?_ (by first | omega | (simp; done) | (simp; omega)) _ | refine Below.alloc ?_ (by first | omega | (simp; done) | (simp; omega)) _ | refine Below.trans ?_ (Below.mono (by assumption) (by first | omega | (simp; done) | (simp; omega))))))
  have HX0 : Hid (Box ((w.alloc (.cells #[.slice (some ⟨hb_, ho, none⟩) x.hb.length c, .slice (some ⟨eb, eo, none⟩) x.er.length d, I en] 25)).alloc (.cells #[I q, I tmi] 50)) w.heap.size [.slice (some ⟨hb_, ho, none⟩) x.hb.length c, .slice (some ⟨eb, eo, none⟩) x.er.length d, I en]) := Lib.hid ((Box.new w [.slice (some ⟨hb_, ho, none⟩) x.hb.length c, .slice (some ⟨eb, eo, none⟩) x.er.length d, I en] 25).alloc _)
  have HE0 : Hid (Box ((w.alloc (.cells #[.slice (some ⟨hb_, ho, none⟩) x.hb.length c, .slice (some ⟨eb, eo, none⟩) x.er.length d, I en] 25)).alloc (.cells #[I q, I tmi] 50)) (w.heap.size + 1) [I q, I tmi]) := Lib.hid (by have := Box.new (w.alloc (.cells #[.slice (some ⟨hb_, ho, none⟩) x.hb.length c, .slice (some ⟨eb, eo, none⟩) x.er.length d, I en] 25)) [I q, I tmi] 50; simpa only [World.size_alloc] using this)
  have HZ0 : Hid (((w.alloc (.cells #[.slice (some ⟨hb_, ho, none⟩) x.hb.length c, .slice (some ⟨eb, eo, none⟩) x.er.length d, I en] 25)).alloc (.cells #[I q, I tmi] 50)).heap.size = w.heap.size + 2) := Lib.hid (by simp)
  have hez2 : eb < w.heap.size + 1 := by omega
  go_enter Try.func37, Try.ntmps37
  go_wp2_with (fail)
  generalize (w.alloc (.cells #[.slice (some ⟨hb_, ho, none⟩) x.hb.length c, .slice (some ⟨eb, eo, none⟩) x.er.length d, I en] 25)).alloc (.cells #[I q, I tmi] 50) = wa at *
  have hza := HZ0.out
  have HCE : Hid (∀ W, Below wa.heap.size wa W → W.cell? ⟨w.heap.size, 0, none⟩ = some (.slice (some ⟨hb_, ho, none⟩) x.hb.length c) ∧ W.cell? ⟨w.heap.size, 1, none⟩ = some (.slice (some ⟨eb, eo, none⟩) x.er.length d) ∧ W.cell? ⟨w.heap.size + 1, 0, none⟩ = some (I q) ∧ W.cell? ⟨w.heap.size + 1, 1, none⟩ = some (I tmi) ∧ (∀ k, k < x.er.length → W.cell? ⟨eb, eo + k * 2, none⟩ = some (I (x.sp k)) ∧ W.cell? ⟨eb, eo + k * 2 + 1, none⟩ = some (I (x.tm k))) ∧ W.cell? ⟨hb_, ho + q * 4, none⟩ = some (I ol) ∧ W.cell? ⟨hb_, ho + q * 4 + 1, none⟩ = some (I oh)) := Lib.hid fun W hB => by
    have hb := HB0.out.trans (hB.mono (by omega))
    exact ⟨((HX0.out.call hB).at_ 0 _ rfl).1, ((HX0.out.call hB).at_ 1 _ rfl).1, ((HE0.out.call hB).at_ 0 _ rfl).1, ((HE0.out.call hB).at_ 1 _ rfl).1, fun k hk => ⟨(hb.cell (p := ⟨eb, _, none⟩) hez).trans (HEC.out k hk).1, (hb.cell (p := ⟨eb, _, none⟩) hez).trans (HEC.out k hk).2⟩, (hb.cell (p := ⟨hb_, _, none⟩) hhz).trans k0, (hb.cell (p := ⟨hb_, _, none⟩) hhz).trans k1⟩
  have HBW : Hid (∀ W, Below wa.heap.size wa W → Below w.heap.size w W) := Lib.hid fun W hB => HB0.out.trans (hB.mono (by omega))
  clear k0 k1 ei0 ei1 HEC HX0 HE0
  go_loopw [6, 7] (fun s6 s7 wr => ∃ k : Nat, k ≤ i ∧ s7 = I k ∧ s6 = I (prevTo x q k) ∧ Below wa.heap.size wa wr) (fun _ s _ => i - (intOf s).toNat)
  case atStart => exact ⟨0, by omega, rfl, by rw [HP0.out], Below.refl _ _⟩
  case round =>
    obtain ⟨k, hk, rfl, rfl, hB⟩ := hrel
    have hzr := hB.size
    by_cases hlt : k < i
    · have r0 : (0 : Int) ≤ (k : Int) := by omega
      have r1 : (k : Int) < (i : Int) := by omega
      have r2 : (k : Int) < (x.er.length : Int) := by omega
      have HPk := Lib.hid (HPS.out k)
      have HCI : Hid (∀ W, Below wr.heap.size wr W → W.cell? ⟨w.heap.size, 0, none⟩ = some (.slice (some ⟨hb_, ho, none⟩) x.hb.length c) ∧ W.cell? ⟨w.heap.size, 1, none⟩ = some (.slice (some ⟨eb, eo, none⟩) x.er.length d) ∧ W.cell? ⟨w.heap.size + 1, 0, none⟩ = some (I q) ∧ W.cell? ⟨w.heap.size + 1, 1, none⟩ = some (I tmi) ∧ W.cell? ⟨eb, eo + k * 2, none⟩ = some (I (x.sp k)) ∧ W.cell? ⟨hb_, ho + q * 4, none⟩ = some (I ol) ∧ W.cell? ⟨hb_, ho + q * 4 + 1, none⟩ = some (I oh)) := Lib.hid fun W hW => by
        obtain ⟨a1, a2, a3, a4, a5, a6, a7⟩ := HCE.out W (hB.trans (hW.mono hzr))
        exact ⟨a1, a2, a3, a4, (a5 k (by omega)).1, a6, a7⟩
      generalize x.sp k = spk at *
      cases e1 : (spk == (q : Int))
      · have hne : ¬ spk = (q : Int) := by simpa using e1
        have HPF : Hid (prevTo x q (k + 1) = prevTo x q k) := Lib.hid (by rw [HPk.out, if_neg hne])
        clear HPk hne
        generalize prevTo x q k = pk at *
        go_wp2_with (fail)
        refine (wpIn_wide (n := 9)).1 ?_
        refine wpIn_region_valsB [some 18, some 19, some 20, some 21, some 22, some 23, some 24, some 25, some 26]
          (nthV [.pointer (some ⟨w.heap.size, 1, none⟩), .slice (some ⟨eb, eo, none⟩) x.er.length d, I k, .pointer (some ⟨eb, eo + k * 2, none⟩), .pointer (some ⟨eb, eo + k * 2, none⟩), I spk, .pointer (some ⟨w.heap.size + 1, 0, none⟩), I q, .bool false])
          [(2, .pointer (some ⟨w.heap.size, 0, none⟩)), (7, I k), (5, .pointer (some ⟨w.heap.size + 1, 0, none⟩))]
          (fun W => Below wr.heap.size wr W) rfl (by kernel_rfl) (fun _ => trivial) (by kernel_rfl) (by kernel_rfl) (by kernel_rfl) ⟨rfl, rfl, rfl, trivial⟩ (fun _ d _ _ _ h => by cases d <;> exact h) (by first | exact (Below.refl _ _).drew | exact (below_drewN (Below.refl _ _) _).drew) ?_ ?_
        · refine ⟨?_, ?_, ?_, ?_, ?_, ?_, ?_, ?_, ?_, trivial⟩
          all_goals (intro x0 W hC; obtain ⟨x0_, x1_, n0, n1, k0, h0, h1⟩ := HCI.out _ hC)
          all_goals first
            | (refine e_no rfl ?_; rfl)
            | (refine e_yes rfl ?_; intro b e hb K hK)
          all_goals first
            | (refine opE_li rfl hb ?_; simp only [execOp, resolve, Oper.about, envB, lookB, lookV, nthV, List.map_toArray, List.map_cons, List.map_nil, Nat.reduceEqDiff, reduceIte, Nat.succ_ne_zero, Nat.zero_ne_one, Nat.one_ne_zero, Nat.reduceAdd, Nat.zero_add]; go_simp; exact hK _ hC)
        · (intro W hC; have HC := Lib.hid hC; clear hC; simp only [putD, nthV, Act.put, List.setIfInBounds_toArray, List.set_cons_succ, List.set_cons_zero, Nat.zero_add, Nat.reduceAdd])
          have hCo := HC.out
          clear HC
          go_wp2_with (fail)
          go_roundw
          case rel => first | exact ⟨k + 1, by omega, by go_num, by rw [HPF.out], hB.trans (hCo.mono hzr)⟩ | ((repeat apply Exists.intro); refine ⟨?_, rfl⟩; exact ⟨k + 1, by omega, by go_num, by rw [HPF.out], hB.trans (hCo.mono hzr)⟩)
          case measure => first | (simp [intOf]; done) | (simp [intOf]; omega)
      · have hne : spk = (q : Int) := by simpa using e1
        have HPF : Hid (prevTo x q (k + 1) = (k : Int)) := Lib.hid (by rw [HPk.out, if_pos hne])
        clear HPk hne
        generalize prevTo x q k = pk at *
        go_wp2_with (fail)
        refine (wpIn_wide (n := 9)).1 ?_
        refine wpIn_region_valsB [some 18, some 19, some 20, some 21, some 22, some 23, some 24, some 25, some 26]
          (nthV [.pointer (some ⟨w.heap.size, 1, none⟩), .slice (some ⟨eb, eo, none⟩) x.er.length d, I k, .pointer (some ⟨eb, eo + k * 2, none⟩), .pointer (some ⟨eb, eo + k * 2, none⟩), I spk, .pointer (some ⟨w.heap.size + 1, 0, none⟩), I q, .bool true])
          [(2, .pointer (some ⟨w.heap.size, 0, none⟩)), (7, I k), (5, .pointer (some ⟨w.heap.size + 1, 0, none⟩))]
          (fun W => Below wr.heap.size wr W) rfl (by kernel_rfl) (fun _ => trivial) (by kernel_rfl) (by kernel_rfl) (by kernel_rfl) ⟨rfl, rfl, rfl, trivial⟩ (fun _ d _ _ _ h => by cases d <;> exact h) (by first | exact (Below.refl _ _).drew | exact (below_drewN (Below.refl _ _) _).drew) ?_ ?_
        · refine ⟨?_, ?_, ?_, ?_, ?_, ?_, ?_, ?_, ?_, trivial⟩
          all_goals (intro x0 W hC; obtain ⟨x0_, x1_, n0, n1, k0, h0, h1⟩ := HCI.out _ hC)
          all_goals first
            | (refine e_no rfl ?_; rfl)
            | (refine e_yes rfl ?_; intro b e hb K hK)
          all_goals first
            | (refine opE_li rfl hb ?_; simp only [execOp, resolve, Oper.about, envB, lookB, lookV, nthV, List.map_toArray, List.map_cons, List.map_nil, Nat.reduceEqDiff, reduceIte, Nat.succ_ne_zero, Nat.zero_ne_one, Nat.one_ne_zero, Nat.reduceAdd, Nat.zero_add]; go_simp; exact hK _ hC)
        · (intro W hC; have HC := Lib.hid hC; clear hC; simp only [putD, nthV, Act.put, List.setIfInBounds_toArray, List.set_cons_succ, List.set_cons_zero, Nat.zero_add, Nat.reduceAdd])
          have hCo := HC.out
          clear HC
          go_wp2_with (fail)
          go_roundw
          case rel => first | exact ⟨k + 1, by omega, by go_num, by rw [HPF.out], hB.trans (hCo.mono hzr)⟩ | ((repeat apply Exists.intro); refine ⟨?_, rfl⟩; exact ⟨k + 1, by omega, by go_num, by rw [HPF.out], hB.trans (hCo.mono hzr)⟩)
          case measure => first | (simp [intOf]; done) | (simp [intOf]; omega)
    · obtain rfl : k = i := by omega
      obtain ⟨pi_, hpi⟩ : ∃ pi_, prevTo x q k = pi_ := ⟨_, rfl⟩
      have hpl := HPL.out k
      rw [hpi] at HND hpl ⊢
      clear hpi HPS HPL HP0
      by_cases hneg : pi_ = -1
      · subst hneg
        have HCP : Hid (∀ W, Below wr.heap.size wr W → W.cell? ⟨w.heap.size, 0, none⟩ = some (.slice (some ⟨hb_, ho, none⟩) x.hb.length c) ∧ W.cell? ⟨w.heap.size, 1, none⟩ = some (.slice (some ⟨eb, eo, none⟩) x.er.length d) ∧ W.cell? ⟨w.heap.size + 1, 0, none⟩ = some (I q) ∧ W.cell? ⟨w.heap.size + 1, 1, none⟩ = some (I tmi) ∧ True ∧ W.cell? ⟨hb_, ho + q * 4, none⟩ = some (I ol) ∧ W.cell? ⟨hb_, ho + q * 4 + 1, none⟩ = some (I oh)) := Lib.hid fun W hW => by
          obtain ⟨a1, a2, a3, a4, _, a6, a7⟩ := HCE.out W (hB.trans (hW.mono hzr))
          exact ⟨a1, a2, a3, a4, trivial, a6, a7⟩
        have HNF : Hid (needB x k = false) := Lib.hid (by rw [HND.out]; rfl)
        clear hpl
        go_wp2_with (fail)
        refine (wpIn_wide (n := 9)).1 ?_
        refine wpIn_region_valsB [some 28, some 29, some 30, some 31, some 32, some 33, some 34, some 35, some 36, some 37, some 38, some 39, some 40, some 41, some 42, some 43, some 44, some 45, some 46, some 47, some 48, some 49, some 4]
          (nthV [I (-1), .bool false, .bool false, undef, undef, undef, undef, undef, undef, undef, undef, undef, undef, undef, undef, undef, undef, undef, undef, undef, undef, .bool false, .bool false])
          [(6, I (-1)), (2, .pointer (some ⟨w.heap.size, 0, none⟩)), (5, .pointer (some ⟨w.heap.size + 1, 0, none⟩))]
          (fun W => Below wr.heap.size wr W) rfl (by kernel_rfl) (fun _ => trivial) (by kernel_rfl) (by kernel_rfl) (by kernel_rfl) ⟨rfl, rfl, rfl, trivial⟩ (fun _ d _ _ _ h => by cases d <;> exact h) (by first | exact (Below.refl _ _).drew | exact (below_drewN (Below.refl _ _) _).drew) ?_ ?_
        · refine ⟨?_, ?_, ?_, ?_, ?_, ?_, ?_, ?_, ?_, ?_, ?_, ?_, ?_, ?_, ?_, ?_, ?_, ?_, ?_, ?_, ?_, ?_, ?_, trivial⟩
          all_goals (intro x0 W hC; obtain ⟨x0_, x1_, n0, n1, k0, h0, h1⟩ := HCP.out _ hC)
          all_goals first
            | (refine e_no rfl ?_; rfl)
            | (refine e_yes rfl ?_; intro b e hb K hK)
          all_goals first
            | (refine opE_li rfl hb ?_; simp only [execOp, resolve, Oper.about, envB, lookB, lookV, nthV, List.map_toArray, List.map_cons, List.map_nil, Nat.reduceEqDiff, reduceIte, Nat.succ_ne_zero, Nat.zero_ne_one, Nat.one_ne_zero, Nat.reduceAdd, Nat.zero_add]; go_simp; exact hK _ hC)
        · (intro W hC; have HC := Lib.hid hC; clear hC; simp only [putD, nthV, Act.put, List.setIfInBounds_toArray, List.set_cons_succ, List.set_cons_zero, Nat.zero_add, Nat.reduceAdd])
          have hCo := HC.out
          clear HC
          go_wp2_with (fail)
          refine bodyPost_ret (v := .bool false) (by simp [results, Try.results37, go_sem]) rfl ⟨by rw [HNF.out], HBW.out _ (hB.trans (hCo.mono hzr))⟩
      · obtain ⟨p, rfl⟩ : ∃ p : Nat, pi_ = (p : Int) := ⟨pi_.toNat, by omega⟩
        have hpi2 : p < k := by omega
        have hpm : p < x.er.length := by omega
        have htp := HTM.out p hpm
        have HCP : Hid (∀ W, Below wr.heap.size wr W → W.cell? ⟨w.heap.size, 0, none⟩ = some (.slice (some ⟨hb_, ho, none⟩) x.hb.length c) ∧ W.cell? ⟨w.heap.size, 1, none⟩ = some (.slice (some ⟨eb, eo, none⟩) x.er.length d) ∧ W.cell? ⟨w.heap.size + 1, 0, none⟩ = some (I q) ∧ W.cell? ⟨w.heap.size + 1, 1, none⟩ = some (I tmi) ∧ W.cell? ⟨eb, eo + p * 2 + 1, none⟩ = some (I (x.tm p)) ∧ W.cell? ⟨hb_, ho + q * 4, none⟩ = some (I ol) ∧ W.cell? ⟨hb_, ho + q * 4 + 1, none⟩ = some (I oh)) := Lib.hid fun W hW => by
          obtain ⟨a1, a2, a3, a4, a5, a6, a7⟩ := HCE.out W (hB.trans (hW.mono hzr))
          exact ⟨a1, a2, a3, a4, (a5 p hpm).2, a6, a7⟩
        have hdt : decide ((0 : Int) ≤ (p : Int)) = true := decide_eq_true (by omega)
        rw [hdt, Int.toNat_natCast] at HND
        generalize x.tm p = tmp_ at *
        have hwv : IntKind.i64.wrap (tmi - tmp_) = tmi - tmp_ := IntWalk.i64_in _ (by omega)
        replace H50 := Lib.hid (H50.out (tmi - tmp_))
        generalize inB (tmi - tmp_) ol oh = r at *
        have HNF : Hid (needB x k = !r) := Lib.hid (by rw [HND.out, Bool.true_and])
        have s0 : (0 : Int) ≤ (p : Int) := by omega
        have s1 : (p : Int) < (x.er.length : Int) := by omega
        clear hpl hneg HND hdt
        go_wp2_with (fail)
        refine (wpIn_wide (n := 9)).1 ?_
        refine wpIn_region_valsB [some 28, some 29, some 30, some 31, some 32, some 33, some 34, some 35, some 36, some 37, some 38, some 39, some 40, some 41, some 42, some 43, some 44, some 45, some 46, some 47, some 48, some 49, some 4]
          (nthV [I p, .bool true, .bool true, .pointer (some ⟨w.heap.size, 0, none⟩), .slice (some ⟨hb_, ho, none⟩) x.hb.length c, .pointer (some ⟨w.heap.size + 1, 0, none⟩), I q, .pointer (some ⟨hb_, ho + q * 4, none⟩), .pointer (some ⟨hb_, ho + q * 4, none⟩), .agg #[I ol, I oh], .pointer (some ⟨w.heap.size + 1, 1, none⟩), I tmi, .pointer (some ⟨w.heap.size, 1, none⟩), .slice (some ⟨eb, eo, none⟩) x.er.length d, I p, .pointer (some ⟨eb, eo + p * 2, none⟩), .pointer (some ⟨eb, eo + p * 2 + 1, none⟩), I tmp_, I (tmi - tmp_), .bool r, .bool (!r), .bool (!r), .bool (!r)])
          [(6, I p), (2, .pointer (some ⟨w.heap.size, 0, none⟩)), (5, .pointer (some ⟨w.heap.size + 1, 0, none⟩))]
          (fun W => Below wr.heap.size wr W) rfl (by kernel_rfl) (fun _ => trivial) (by kernel_rfl) (by kernel_rfl) (by kernel_rfl) ⟨rfl, rfl, rfl, trivial⟩ (fun _ d _ _ _ h => by cases d <;> exact h) (by first | exact (Below.refl _ _).drew | exact (below_drewN (Below.refl _ _) _).drew) ?_ ?_
        · refine ⟨?_, ?_, ?_, ?_, ?_, ?_, ?_, ?_, ?_, ?_, ?_, ?_, ?_, ?_, ?_, ?_, ?_, ?_, ?_, ?_, ?_, ?_, ?_, trivial⟩
          all_goals (intro x0 W hC; obtain ⟨x0_, x1_, n0, n1, k0, h0, h1⟩ := HCP.out _ hC)
          all_goals first
            | (refine e_no rfl ?_; rfl)
            | (refine e_yes rfl ?_; intro b e hb K hK)
          all_goals first
            | (refine opE_li rfl hb ?_; simp only [execOp, resolve, Oper.about, envB, lookB, lookV, nthV, List.map_toArray, List.map_cons, List.map_nil, Nat.reduceEqDiff, reduceIte, Nat.succ_ne_zero, Nat.zero_ne_one, Nat.one_ne_zero, Nat.reduceAdd, Nat.zero_add]; go_simp; exact hK _ hC)
            | (refine opE_call rfl hb (fun _ => trivial) (fun h => (by cases h)) 50 #[.agg #[I ol, I oh], I (tmi - tmp_)] ?_ ?_
               · (simp only [execOp, resolve, Oper.about, envB, lookB, lookV, nthV, List.map_toArray, List.map_cons, List.map_nil, Nat.reduceEqDiff, reduceIte, Nat.succ_ne_zero, Nat.zero_ne_one, Nat.one_ne_zero, Nat.reduceAdd, Nat.zero_add])
                 go_simp
               · refine callsIn_wide.2 ((H50.out _).mono ?_)
                 rintro e w6 ⟨rfl, hB6⟩
                 exact ⟨_, rfl, hK _ (hC.trans (hB6.mono hC.size))⟩)
        · (intro W hC; have HC := Lib.hid hC; clear hC; simp only [putD, nthV, Act.put, List.setIfInBounds_toArray, List.set_cons_succ, List.set_cons_zero, Nat.zero_add, Nat.reduceAdd])
          have hCo := HC.out
          clear HC
          go_wp2_with (fail)
          refine bodyPost_ret (v := .bool (!r)) (by simp [results, Try.results37, go_sem]) rfl ⟨by rw [HNF.out], HBW.out _ (hB.trans (hCo.mono hzr))⟩
end Go.Proofs.Ytijgfdncocjncaa
