/- The laws' ordered and some. -/
import Derived.Test.YtijgfdncocjncaaG6
namespace Go.Proofs.Ytijgfdncocjncaa
set_option linter.unusedVariables false
set_option linter.unusedSimpArgs false
open Go Go.RowKit

set_option maxRecDepth 100000 in
set_option maxHeartbeats 8000000 in
theorem ordered23 (C : Option Addr) (cs : Nat) (S : List (Int × Int)) (w : World) (hS : Twos w w.heap.size C S) (hso : S.Pairwise lnkLt) (hsl : S.length ≤ 1000) :
    Calls Try.prog 23 #[.slice C S.length cs] w fun e w' => e = .returned (.bool true) ∧ Below w.heap.size w w' := by
  have HTW := Lib.hid hS
  have HSO := Lib.hid hso
  clear hS hso
  go_enter Try.func23, Try.ntmps23
  go_wp2_with (fail)
  go_loopw [3] (fun s wr => ∃ k : Nat, 1 ≤ k ∧ k ≤ S.length + 1 ∧ s = I k ∧ Below w.heap.size w wr) (fun s _ => S.length + 1 - (intOf s).toNat)
  case atStart => exact ⟨1, by omega, by omega, rfl, Below.refl _ _⟩
  case round =>
    obtain ⟨k, hk1, hk, rfl, hB⟩ := hrel
    have hzr := hB.size
    by_cases hlt : k < S.length
    · obtain ⟨j, hj⟩ : ∃ j, k = j + 1 := ⟨k - 1, by omega⟩
      obtain ⟨sb, so, rfl, hsz, hsc⟩ := HTW.out (by omega)
      obtain ⟨k0, k1⟩ := hsc k hlt
      obtain ⟨j0, j1⟩ := hsc j (by omega)
      have hlk := List.pairwise_iff_getElem.1 HSO.out j k (by omega) hlt (by omega)
      unfold lnkLt at hlk
      have HCK : Hid (∀ W, Below w.heap.size w W → W.cell? ⟨sb, so + k * 2, none⟩ = some (I S[k].1) ∧ W.cell? ⟨sb, so + k * 2 + 1, none⟩ = some (I S[k].2) ∧ W.cell? ⟨sb, so + j * 2, none⟩ = some (I S[j].1) ∧ W.cell? ⟨sb, so + j * 2 + 1, none⟩ = some (I S[j].2)) := Lib.hid fun W hW => ⟨(hW.cell (p := ⟨sb, _, none⟩) hsz).trans k0, (hW.cell (p := ⟨sb, _, none⟩) hsz).trans k1, (hW.cell (p := ⟨sb, _, none⟩) hsz).trans j0, (hW.cell (p := ⟨sb, _, none⟩) hsz).trans j1⟩
      generalize S[k].1 = a1 at *
      generalize S[k].2 = b1 at *
      generalize S[j].1 = a0 at *
      generalize S[j].2 = b0 at *
      have p0 : (0 : Int) ≤ (k : Int) := by omega
      have p1 : (k : Int) < (S.length : Int) := by omega
      have r0 : (0 : Int) ≤ (j : Int) := by omega
      have r1 : (j : Int) < (S.length : Int) := by omega
      have hwk : IntKind.i64.wrap ((k : Int) - 1) = (j : Int) := by rw [show (k : Int) - 1 = (j : Int) by omega]; exact IntWalk.i64_in _ (by omega)
      have g1 : decide (b1 < b0) = false := decide_eq_false (by omega)
      have hz0 : w.heap.size ≤ wr.heap.size := hzr
      clear hsc k0 k1 j0 j1 hj
      by_cases hbb : b1 = b0
      · have g2 : (b1 == b0) = true := by simpa using hbb
        have g3 : decide (a1 ≤ a0) = false := decide_eq_false (by omega)
        clear hlk hbb
        go_wp2_with (fail)
        refine (wpIn_wide (n := 9)).1 ?_
        refine wpIn_region_valsB [some 10, some 11, some 12, some 13, some 14, some 15, some 16, some 17, some 18, some 19, some 20, some 21, some 22, some 23, some 24, some 25, some 26, some 27, some 28, some 29, some 30, some 31, some 32, some 33, some 34, some 35, some 36, some 37, some 38, some 39, some 40, some 41, some 42, some 43, some 44, some 45, some 46, some 47, some 48, some 49]
          (nthV [.slice (some ⟨sb, so, none⟩) S.length cs, I k, .pointer (some ⟨sb, so + k * 2, none⟩), .pointer (some ⟨sb, so + k * 2 + 1, none⟩), I b1, .slice (some ⟨sb, so, none⟩) S.length cs, I k, I j, .pointer (some ⟨sb, so + j * 2, none⟩), .pointer (some ⟨sb, so + j * 2 + 1, none⟩), I b0, .bool false, .bool false, .slice (some ⟨sb, so, none⟩) S.length cs, I k, .pointer (some ⟨sb, so + k * 2, none⟩), .pointer (some ⟨sb, so + k * 2 + 1, none⟩), I b1, .slice (some ⟨sb, so, none⟩) S.length cs, I k, I j, .pointer (some ⟨sb, so + j * 2, none⟩), .pointer (some ⟨sb, so + j * 2 + 1, none⟩), I b0, .bool true, .bool true, .slice (some ⟨sb, so, none⟩) S.length cs, I k, .pointer (some ⟨sb, so + k * 2, none⟩), .pointer (some ⟨sb, so + k * 2, none⟩), I a1, .slice (some ⟨sb, so, none⟩) S.length cs, I k, I j, .pointer (some ⟨sb, so + j * 2, none⟩), .pointer (some ⟨sb, so + j * 2, none⟩), I a0, .bool false, .bool false, .bool false])
          [(0, .slice (some ⟨sb, so, none⟩) S.length cs), (3, I k)]
          (fun W => Below w.heap.size w W) rfl (by kernel_rfl) (fun _ => trivial) (by kernel_rfl) (by kernel_rfl) (by kernel_rfl) ⟨rfl, rfl, trivial⟩ (fun _ d _ _ _ h => by cases d <;> exact h) (by first | exact hB.drew | exact (below_drewN hB _).drew) ?_ ?_
        · refine ⟨?_, ?_, ?_, ?_, ?_, ?_, ?_, ?_, ?_, ?_, ?_, ?_, ?_, ?_, ?_, ?_, ?_, ?_, ?_, ?_, ?_, ?_, ?_, ?_, ?_, ?_, ?_, ?_, ?_, ?_, ?_, ?_, ?_, ?_, ?_, ?_, ?_, ?_, ?_, ?_, trivial⟩
          all_goals (intro x0 W hC; obtain ⟨k0_, k1_, j0_, j1_⟩ := HCK.out _ hC)
          all_goals first
            | (refine e_no rfl ?_; rfl)
            | (refine e_yes rfl ?_; intro b e hb K hK)
          all_goals first
            | (refine opE_li rfl hb ?_; simp only [execOp, resolve, Oper.about, envB, lookB, lookV, nthV, List.map_toArray, List.map_cons, List.map_nil, Nat.reduceEqDiff, reduceIte, Nat.succ_ne_zero, Nat.zero_ne_one, Nat.one_ne_zero, Nat.reduceAdd, Nat.zero_add]; go_simp; exact hK _ hC)
        · (intro W hC; have HC := Lib.hid hC; clear hC; simp only [putD, nthV, Act.put, List.setIfInBounds_toArray, List.set_cons_succ, List.set_cons_zero, Nat.zero_add, Nat.reduceAdd])
          have hCo := HC.out
          clear HC
          go_wp2_with (fail)
          go_roundw
          case rel => first | exact ⟨k + 1, by omega, by omega, by go_num, hCo⟩ | ((repeat apply Exists.intro); refine ⟨?_, rfl⟩; exact ⟨k + 1, by omega, by omega, by go_num, hCo⟩)
          case measure => first | (simp [intOf]; done) | (simp [intOf]; omega)
      · have g2 : (b1 == b0) = false := by simpa using hbb
        clear hlk hbb
        go_wp2_with (fail)
        refine (wpIn_wide (n := 9)).1 ?_
        refine wpIn_region_valsB [some 10, some 11, some 12, some 13, some 14, some 15, some 16, some 17, some 18, some 19, some 20, some 21, some 22, some 23, some 24, some 25, some 26, some 27, some 28, some 29, some 30, some 31, some 32, some 33, some 34, some 35, some 36, some 37, some 38, some 39, some 40, some 41, some 42, some 43, some 44, some 45, some 46, some 47, some 48, some 49]
          (nthV [.slice (some ⟨sb, so, none⟩) S.length cs, I k, .pointer (some ⟨sb, so + k * 2, none⟩), .pointer (some ⟨sb, so + k * 2 + 1, none⟩), I b1, .slice (some ⟨sb, so, none⟩) S.length cs, I k, I j, .pointer (some ⟨sb, so + j * 2, none⟩), .pointer (some ⟨sb, so + j * 2 + 1, none⟩), I b0, .bool false, .bool false, .slice (some ⟨sb, so, none⟩) S.length cs, I k, .pointer (some ⟨sb, so + k * 2, none⟩), .pointer (some ⟨sb, so + k * 2 + 1, none⟩), I b1, .slice (some ⟨sb, so, none⟩) S.length cs, I k, I j, .pointer (some ⟨sb, so + j * 2, none⟩), .pointer (some ⟨sb, so + j * 2 + 1, none⟩), I b0, .bool false, .bool false, undef, undef, undef, undef, undef, undef, undef, undef, undef, undef, undef, undef, .bool false, .bool false])
          [(0, .slice (some ⟨sb, so, none⟩) S.length cs), (3, I k)]
          (fun W => Below w.heap.size w W) rfl (by kernel_rfl) (fun _ => trivial) (by kernel_rfl) (by kernel_rfl) (by kernel_rfl) ⟨rfl, rfl, trivial⟩ (fun _ d _ _ _ h => by cases d <;> exact h) (by first | exact hB.drew | exact (below_drewN hB _).drew) ?_ ?_
        · refine ⟨?_, ?_, ?_, ?_, ?_, ?_, ?_, ?_, ?_, ?_, ?_, ?_, ?_, ?_, ?_, ?_, ?_, ?_, ?_, ?_, ?_, ?_, ?_, ?_, ?_, ?_, ?_, ?_, ?_, ?_, ?_, ?_, ?_, ?_, ?_, ?_, ?_, ?_, ?_, ?_, trivial⟩
          all_goals (intro x0 W hC; obtain ⟨k0_, k1_, j0_, j1_⟩ := HCK.out _ hC)
          all_goals first
            | (refine e_no rfl ?_; rfl)
            | (refine e_yes rfl ?_; intro b e hb K hK)
          all_goals first
            | (refine opE_li rfl hb ?_; simp only [execOp, resolve, Oper.about, envB, lookB, lookV, nthV, List.map_toArray, List.map_cons, List.map_nil, Nat.reduceEqDiff, reduceIte, Nat.succ_ne_zero, Nat.zero_ne_one, Nat.one_ne_zero, Nat.reduceAdd, Nat.zero_add]; go_simp; exact hK _ hC)
        · (intro W hC; have HC := Lib.hid hC; clear hC; simp only [putD, nthV, Act.put, List.setIfInBounds_toArray, List.set_cons_succ, List.set_cons_zero, Nat.zero_add, Nat.reduceAdd])
          have hCo := HC.out
          clear HC
          go_wp2_with (fail)
          go_roundw
          case rel => first | exact ⟨k + 1, by omega, by omega, by go_num, hCo⟩ | ((repeat apply Exists.intro); refine ⟨?_, rfl⟩; exact ⟨k + 1, by omega, by omega, by go_num, hCo⟩)
          case measure => first | (simp [intOf]; done) | (simp [intOf]; omega)
    · have q1 : ¬ (k : Int) < (S.length : Int) := by omega
      go_wp2_with (fail)
      exact bodyPost_ret (v := .bool true) (by simp [results, Try.results23, go_sem]) rfl ⟨rfl, hB⟩
theorem LnkOk.snoc {x : Wat} {S : List (Int × Int)} {f t : Nat} (h : LnkOk x S) (hf : f < x.hb.length) (ht : t < x.hb.length) (hne : f ≠ t) : LnkOk x (S ++ [((f : Int), (t : Int))]) := fun p hp => by
  rcases List.mem_append.1 hp with hp | hp
  · exact h p hp
  · obtain rfl := List.mem_singleton.1 hp
    exact ⟨f, t, rfl, hf, ht, hne⟩
set_option maxRecDepth 100000 in
set_option maxHeartbeats 8000000 in
theorem some21 (x : Wat) (A B : Option Addr) (c d : Nat) (b : Nat) (w : World) (hn6 : x.hb.length ≤ 6) (hb : b < 4294967296) :
    Calls Try.prog 21 #[x.val A c B d, .int .u32 b] w fun e w' => ∃ A' c' S, e = .returned (.slice A' S.length c') ∧ Twos w' w'.heap.size A' S ∧ LnkOk x S ∧ S.length ≤ 36 ∧ Below w.heap.size w w' := by
  obtain ⟨i0, hi0, hi1, hi2, hi3⟩ := info_parts info27
  have HB0 : Hid (Below w.heap.size w (w.alloc (.cells #[.slice A x.hb.length c, .slice B x.er.length d, I x.en] 25))) := Lib.hid (by (repeat' (first | assumption | exact Below.refl _ _ | refine Below.drew ?_ | refine below_drewN ?_ _ | refine Below.setCell ?_ (by first | omega | (simp; done) | (simp; omega)) _ | refine Below.alloc ?_ (by first | omega | (simp; done) | (simp; omega)) _ | refine Below.trans ?_ (Below.mono (by assumption) (by first | omega | (simp; done) | (simp; omega))))))
  have HX0 : Hid (Box (w.alloc (.cells #[.slice A x.hb.length c, .slice B x.er.length d, I x.en] 25)) w.heap.size [.slice A x.hb.length c, .slice B x.er.length d, I x.en]) := Lib.hid (Box.new w [.slice A x.hb.length c, .slice B x.er.length d, I x.en] 25)
  have HZ0 : Hid ((w.alloc (.cells #[.slice A x.hb.length c, .slice B x.er.length d, I x.en] 25)).heap.size = w.heap.size + 1) := Lib.hid (by simp)
  unfold Wat.val
  go_enter Try.func21, Try.ntmps21
  go_wp2_with (fail)
  generalize w.alloc (.cells #[.slice A x.hb.length c, .slice B x.er.length d, I x.en] 25) = wa at *
  have hza := HZ0.out
  go_loopw [1, 5, 6] (fun s1 s5 s6 wr => ∃ (t b : Nat) (S : List (Int × Int)), t ≤ x.hb.length ∧ s6 = I t ∧ s1 = .int .u32 b ∧ b < 4294967296 ∧ S.length ≤ 6 * t ∧ Hid (LnkOk x S) ∧ Below wa.heap.size wa wr ∧ Hid (wr.ownsRow wa.heap.size 27 2 s5 S.length (flat2 S))) (fun _ _ s _ => x.hb.length - (intOf s).toNat)
  case atStart => exact ⟨0, b, [], by omega, rfl, rfl, hb, by simp, Lib.hid (fun p hp => by cases hp), Below.refl _ _, Lib.hid (World.ownsRow_nil _ _ _ _)⟩
  case round =>
    clear hb
    obtain ⟨t, b, S, ht, rfl, rfl, hb, hsl, HOK, hB, HO⟩ := hrel
    have hzr := hB.size
    have hbx := HX0.out.call hB
    obtain ⟨c0, _⟩ := hbx.at_ 0 _ rfl
    by_cases hlt : t < x.hb.length
    · have p0 : (0 : Int) ≤ (t : Int) := by omega
      have p1 : (t : Int) < (x.hb.length : Int) := by omega
      go_wp2_with (fail)
      clear hbx c0
      have HB1 := Lib.hid hB
      have HO1 := Lib.hid HO.out
      have HOK1 := HOK
      have hb1 := hb
      clear hB HO HOK hb
      go_loopw [1, 5, 7] (fun s1 s5 s7 wi => ∃ (f b : Nat) (S : List (Int × Int)), f ≤ x.hb.length ∧ s7 = I f ∧ s1 = .int .u32 b ∧ b < 4294967296 ∧ S.length ≤ 6 * t + f ∧ Hid (LnkOk x S) ∧ Below wa.heap.size wa wi ∧ Hid (wi.ownsRow wa.heap.size 27 2 s5 S.length (flat2 S))) (fun _ _ s _ => x.hb.length - (intOf s).toNat)
      case atStart => exact ⟨0, b, S, by omega, rfl, rfl, hb1, by omega, HOK1, HB1.out, HO1⟩
      case round =>
        clear HB1 HO1 HOK1 hb1 hsl
        obtain ⟨f, b, S, hf, rfl, rfl, hb, hsl, HOK, hB, HO⟩ := hrel
        have hzi := hB.size
        have hbx := HX0.out.call hB
        obtain ⟨c0, _⟩ := hbx.at_ 0 _ rfl
        by_cases hlf : f < x.hb.length
        · have r0 : (0 : Int) ≤ (f : Int) := by omega
          have r1 : (f : Int) < (x.hb.length : Int) := by omega
          by_cases hft : f = t
          · have g0 : ((f : Int) == (t : Int)) = true := by simp [hft]
            go_wp2_with (fail)
            go_roundw
            case rel => first | exact ⟨f + 1, b, S, by omega, by go_num, rfl, hb, by omega, HOK, hB, HO⟩ | ((repeat apply Exists.intro); refine ⟨?_, rfl⟩; exact ⟨f + 1, b, S, by omega, by go_num, rfl, hb, by omega, HOK, hB, HO⟩)
            case measure => first | (simp [intOf]; done) | (simp [intOf]; omega)
          · have g0 : ((f : Int) == (t : Int)) = false := by simp; omega
            have HOKn := Lib.hid (HOK.out.snoc hlf hlt hft)
            have hnf : flat2 (S ++ [((f : Int), (t : Int))]) = flat2 S ++ [I f, I t] := by rw [flat2_app]; simp [flat2]
            have hnl : (S ++ [((f : Int), (t : Int))]).length = S.length + 1 := by simp
            by_cases hbit : b % 2 = 1
            · have HOa := Lib.hid (HO.out.alloc (.cells #[I f, I t] 27))
              have hs5 := HO.out.lt
              have HCN := Lib.hid (cells_new wr [I f, I t] 27)
              have HSF := Lib.hid hnf
              have HSG := Lib.hid hnl
              generalize S ++ [((f : Int), (t : Int))] = S2 at *
              clear hnf hnl HOK
              go_wp2_with (first
                | (at_builtin; refine wpList_append_own _ rfl _ _ 38 rfl wa.heap.size 27 i0 (.agg #[I 0, I 0]) 2 16 Try.underlying38 hi0 hi1 hi2 hi3 rfl (by decide) _ _ _ rfl HOa.out ⟨wr.heap.size, 0, none⟩ 1 1 [I f, I t] rfl rfl HCN.out (by simp [Value.oneCell']) (by unfold maxLen; omega) (by omega) (by simp; omega) ?_; intro v' w6 hown6 hg6 _)
                | fail)
              have HB6 : Hid (Below wa.heap.size wa w6) := Lib.hid ((hB.alloc hzi _).grown hg6 (by simp; omega) (fun g e => (hs5 g e).1))
              have HO6 : Hid (w6.ownsRow wa.heap.size 27 2 v' S2.length (flat2 S2)) := Lib.hid (by rw [HSF.out, HSG.out]; exact hown6)
              have hs2 : S2.length ≤ 6 * t + (f + 1) := by rw [HSG.out]; omega
              clear hown6 hg6 HSF HSG
              go_wp2_with (fail)
              go_roundw
              case rel => first | exact ⟨f + 1, b / 2, S2, by omega, by go_num, (by first | rfl | (congr 1; omega)), by omega, hs2, HOKn, HB6.out, HO6⟩ | ((repeat apply Exists.intro); refine ⟨?_, rfl⟩; exact ⟨f + 1, b / 2, S2, by omega, by go_num, (by first | rfl | (congr 1; omega)), by omega, hs2, HOKn, HB6.out, HO6⟩)
              case measure => first | (simp [intOf]; done) | (simp [intOf]; omega)
            · clear HOKn hnf hnl
              go_wp2_with (fail)
              go_roundw
              case rel => first | exact ⟨f + 1, b / 2, S, by omega, by go_num, (by first | rfl | (congr 1; omega)), by omega, by omega, HOK, hB, HO⟩ | ((repeat apply Exists.intro); refine ⟨?_, rfl⟩; exact ⟨f + 1, b / 2, S, by omega, by go_num, (by first | rfl | (congr 1; omega)), by omega, by omega, HOK, hB, HO⟩)
              case measure => first | (simp [intOf]; done) | (simp [intOf]; omega)
        · obtain rfl : f = x.hb.length := by omega
          go_wp2_with (fail)
          go_roundw
          case rel => first | exact ⟨t + 1, b, S, by omega, by go_num, rfl, hb, by omega, HOK, hB, HO⟩ | ((repeat apply Exists.intro); refine ⟨?_, rfl⟩; exact ⟨t + 1, b, S, by omega, by go_num, rfl, hb, by omega, HOK, hB, HO⟩)
          case measure => first | (simp [intOf]; done) | (simp [intOf]; omega)
    · obtain rfl : t = x.hb.length := by omega
      obtain ⟨A', c', hv, hT, _⟩ := twos_own HO.out rfl
      subst hv
      have HT := Lib.hid hT
      have HBF : Hid (Below w.heap.size w wr) := Lib.hid (HB0.out.trans (hB.mono (by omega)))
      clear HO hT
      go_wp2_with (fail)
      exact bodyPost_ret (v := .slice A' S.length c') (by simp [results, Try.results21, go_sem]) rfl ⟨A', c', S, rfl, HT.out, HOK.out, by omega, HBF.out⟩
end Go.Proofs.Ytijgfdncocjncaa
