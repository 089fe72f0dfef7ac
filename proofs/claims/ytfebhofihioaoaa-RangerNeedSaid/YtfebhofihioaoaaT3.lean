/- RangerNeed: the walk. -/
import Derived.Test.YtfebhofihioaoaaS28
import Derived.Test.YtfebhofihioaoaaS29
import Derived.Test.YtfebhofihioaoaaO14
namespace Go.Proofs.Ytfebhofihioaoaa
set_option linter.unusedVariables false
set_option linter.unusedSimpArgs false
open Go Go.RowKit

theorem needR_ok {x : Prk} (hp : prkB x = true) {S : Nat} (hS : S < 2 ^ x.n) : needR x S = (needV x S, 0) := by
  have h : ((2 ^ x.n : Nat) : Int) = (2 : Int) ^ x.n := by simp
  unfold needR
  rw [hp, if_pos rfl, if_pos (inB_true.2 ⟨by omega, by rw [← h]; omega⟩)]
  rfl
/-- The sets of those in either, and of those in both, and the bit. -/
def TwoS (a b i U V P : Nat) : Prop := U = bitsOf (fun j => a.testBit j || b.testBit j) i ∧ V = bitsOf (fun j => a.testBit j && b.testBit j) i ∧ P = 2 ^ i
theorem TwoS.step {a b i U V P : Nat} (h : TwoS a b i U V P) {ba bb : Bool} (ha : a.testBit i = ba) (hb : b.testBit i = bb) : TwoS a b (i + 1) (U + if ba || bb then P else 0) (V + if ba && bb then P else 0) (2 * P) := by
  obtain ⟨rfl, rfl, rfl⟩ := h
  subst ha hb
  exact ⟨(bitsOf_sum _ i).symm, (bitsOf_sum _ i).symm, by rw [Nat.pow_succ]; omega⟩
theorem pow_six {i : Nat} (h : i ≤ 6) : 2 ^ i ≤ 64 := by
  have := Nat.pow_le_pow_right (show 0 < 2 by omega) h
  simpa using this
theorem TwoS.le {a b i U V P : Nat} (h : TwoS a b i U V P) (hi : i ≤ 6) : U ≤ 64 ∧ V ≤ 64 ∧ P ≤ 64 := by
  obtain ⟨rfl, rfl, rfl⟩ := h
  have h1 := pow_six hi
  have h2 := bitsOf_lt (fun j => a.testBit j || b.testBit j) i
  have h3 := bitsOf_lt (fun j => a.testBit j && b.testBit j) i
  omega
theorem TwoS.needs {x : Prk} (hx : PrkOk x) {a b U V P : Nat} (h : TwoS a b x.n U V P) : (U < 2 ^ x.n ∧ V < 2 ^ x.n) ∧ needV x U ≤ needV x a + needV x b ∧ needV x a ≤ needV x U ∧ needV x b ≤ needV x U ∧ needV x V ≤ needV x a ∧ needV x V ≤ needV x b := by
  obtain ⟨rfl, rfl, rfl⟩ := h
  refine ⟨⟨bitsOf_lt _ _, bitsOf_lt _ _⟩, needV_both hx (allNeed hx) fun i hi h => ?_, needV_sub hx (allNeed hx) fun i hi h => ?_, needV_sub hx (allNeed hx) fun i hi h => ?_, needV_sub hx (allNeed hx) fun i hi h => ?_, needV_sub hx (allNeed hx) fun i hi h => ?_⟩
  all_goals (rw [bitsOf_bit] at *; simp_all)
set_option maxRecDepth 100000 in
set_option maxHeartbeats 8000000 in
theorem need_false (x : Prk) (A B : Option Addr) (c d : Nat) (s o : Int) (ys : List Int) (w : World) (hA : Fours w w.heap.size A x.sp) (hx : Prk64 x) (hs : 0 ≤ s ∧ s ≤ 255) (ho : 0 ≤ o ∧ o ≤ 255) (hy : U32W w w.heap.size B ys) (hyl : ys.length ≤ 9223372036854775807) (hyb : ∀ y ∈ ys, 0 ≤ y ∧ y ≤ 4294967295) (hp : prkB x = false) :
    Calls Try.prog 6 #[x.val A c, .int .u8 s, .int .u8 o, .slice B ys.length d] w fun e w' => e = .returned (.bool true) ∧ Below w.heap.size w w' := by
  have HFI : Hid (∀ W, Below w.heap.size w W → Fours W W.heap.size A x.sp ∧ U32W W W.heap.size B ys) := Lib.hid fun W hW => ⟨(hA.below hW).more hW.size, (hy.below hW).more hW.size⟩
  have hxl := hx.len
  have H9 : Hid (∀ W : World, Fours W W.heap.size A x.sp → Calls Try.prog 9 #[.agg #[.slice A x.sp.length c, I x.alo, I x.ahi]] W fun e w' => ∃ b : Bool, e = .returned (.bool b) ∧ Below W.heap.size W w') := Lib.hid fun W h => busy9 x A c W h hx
  have H10 : Hid (∀ W : World, Calls Try.prog 10 #[] W fun e w' => e = .returned (.bool true) ∧ Below W.heap.size W w') := Lib.hid awake10
  have HYB := Lib.hid hyb
  have H17 : Hid (∀ W : World, Fours W W.heap.size A x.sp → Calls Try.prog 17 #[.agg #[.slice A x.sp.length c, I x.alo, I x.ahi]] W fun e w' => e = .returned (.bool false) ∧ Below W.heap.size W w') := Lib.hid fun W h => by
    have := park17 x A c W h hxl
    rwa [hp] at this
  have H11 : Hid (∀ W : World, Fours W W.heap.size A x.sp → Calls Try.prog 11 #[.agg #[.slice A x.sp.length c, I x.alo, I x.ahi], I s] W fun e w' => e = .returned (.tuple #[I 0, I 1]) ∧ Below W.heap.size W w') := Lib.hid fun W h => by
    have hr : needR x s = (0, 1) := by unfold needR; rw [hp]; rfl
    have := need11 x A c s W h hxl
    rwa [hr] at this
  clear hp
  clear hA hx hy hyb
  simp only [Prk.val]
  generalize x.alo = al at *
  generalize x.ahi = ah at *
  have HW : Hid (Below w.heap.size w (w.alloc (.cells #[.slice A x.sp.length c, I al, I ah] 26))) := Lib.hid (below1 _ _)
  have HCP : Hid (∀ W, Below (w.heap.size + 1) (w.alloc (.cells #[.slice A x.sp.length c, I al, I ah] 26)) W → W.cell? ⟨w.heap.size, 0, none⟩ = some (.slice A x.sp.length c) ∧ W.cell? ⟨w.heap.size, 1, none⟩ = some (I al) ∧ W.cell? ⟨w.heap.size, 2, none⟩ = some (I ah) ∧ Below w.heap.size w W) := Lib.hid fun W hW =>
    ⟨(hW.cell (p := ⟨_, _, none⟩) (by simp)).trans (by simp [go_sem]), (hW.cell (p := ⟨_, _, none⟩) (by simp)).trans (by simp [go_sem]), (hW.cell (p := ⟨_, _, none⟩) (by simp)).trans (by simp [go_sem]), (below1 w _).trans (hW.mono (by omega))⟩
  have HST : Hid (∀ V W X : World, Below (w.heap.size + 1) V W → w.heap.size + 1 ≤ W.heap.size → Below W.heap.size W X → Below (w.heap.size + 1) V X ∧ w.heap.size + 1 ≤ X.heap.size) := Lib.hid fun V W X h1 h2 h3 => ⟨h1.trans (h3.mono h2), by have := h3.size; omega⟩
  have hsz : (w.alloc (.cells #[.slice A x.sp.length c, I al, I ah] 26)).heap.size = w.heap.size + 1 := by simp
  go_enter Try.func6, Try.ntmps6
  go_wp2_with (fail)
  refine (H9.out _ (HFI.out _ HW.out).1).mono ?_
  rintro e w1 ⟨b, rfl, hB1⟩
  have hb1 : Below (w.heap.size + 1) (w.alloc (.cells #[.slice A x.sp.length c, I al, I ah] 26)) w1 := hB1.mono (by omega)
  have hz1 : w.heap.size + 1 ≤ w1.heap.size := by have := hB1.size; omega
  obtain ⟨q0, q1, q2, hBw1⟩ := HCP.out w1 hb1
  clear hB1
  cases b
  · rcases Nat.eq_zero_or_pos ys.length with hy0 | hy0
    · go_wp2_with (first
        | (go_at_call 10; refine (H10.out _).mono ?_; rintro e w2 ⟨rfl, hB2⟩)
        | fail)
      refine bodyPost_ret (v := .bool true) (by simp [results, Try.results6, go_sem]) rfl ⟨rfl, hBw1.trans (hB2.mono hBw1.size)⟩
    · go_wp2_with (first
        | (go_at_call 17; refine (H17.out _ (HFI.out _ hBw1).1).mono ?_; rintro e w2 ⟨rfl, hB2⟩; obtain ⟨hb2, hz2⟩ := HST.out _ _ _ hb1 hz1 hB2; obtain ⟨c20, c21, c22, hBw2⟩ := HCP.out w2 hb2)
        | (go_at_call 11; refine (H11.out _ (HFI.out _ hBw2).1).mono ?_; rintro e w3 ⟨rfl, hB3⟩; obtain ⟨hb3, hz3⟩ := HST.out _ _ _ hb2 hz2 hB3; obtain ⟨c30, c31, c32, hBw3⟩ := HCP.out w3 hb3)
        | (go_at_call 10; refine (H10.out _).mono ?_; rintro e w4 ⟨rfl, hB4⟩; obtain ⟨hb4, hz4⟩ := HST.out _ _ _ hb3 hz3 hB4; obtain ⟨c40, c41, c42, hBw4⟩ := HCP.out w4 hb4)
        | fail)
      refine bodyPost_ret (v := .bool true) (by simp [results, Try.results6, go_sem]) rfl ⟨rfl, hBw4⟩
  · go_wp2_with (first
      | (go_at_call 10; refine (H10.out _).mono ?_; rintro e w2 ⟨rfl, hB2⟩)
      | fail)
    refine bodyPost_ret (v := .bool true) (by simp [results, Try.results6, go_sem]) rfl ⟨rfl, hBw1.trans (hB2.mono hBw1.size)⟩
set_option maxRecDepth 100000 in
set_option maxHeartbeats 8000000 in
theorem need_ok (x : Prk) (A B : Option Addr) (c d : Nat) (s o : Int) (ys : List Int) (w : World) (hA : Fours w w.heap.size A x.sp) (hx : Prk64 x) (hs : 0 ≤ s ∧ s ≤ 255) (ho : 0 ≤ o ∧ o ≤ 255) (hy : U32W w w.heap.size B ys) (hyl : ys.length ≤ 9223372036854775807) (hyb : ∀ y ∈ ys, 0 ≤ y ∧ y ≤ 4294967295) (hp : prkB x = true) :
    Calls Try.prog 6 #[x.val A c, .int .u8 s, .int .u8 o, .slice B ys.length d] w fun e w' => e = .returned (.bool true) ∧ Below w.heap.size w w' := by
  have HFI : Hid (∀ W, Below w.heap.size w W → Fours W W.heap.size A x.sp ∧ U32W W W.heap.size B ys) := Lib.hid fun W hW => ⟨(hA.below hW).more hW.size, (hy.below hW).more hW.size⟩
  have hxl := hx.len
  have H9 : Hid (∀ W : World, Fours W W.heap.size A x.sp → Calls Try.prog 9 #[.agg #[.slice A x.sp.length c, I x.alo, I x.ahi]] W fun e w' => ∃ b : Bool, e = .returned (.bool b) ∧ Below W.heap.size W w') := Lib.hid fun W h => busy9 x A c W h hx
  have H10 : Hid (∀ W : World, Calls Try.prog 10 #[] W fun e w' => e = .returned (.bool true) ∧ Below W.heap.size W w') := Lib.hid awake10
  have HYB := Lib.hid hyb
  have H17 : Hid (∀ W : World, Fours W W.heap.size A x.sp → Calls Try.prog 17 #[.agg #[.slice A x.sp.length c, I x.alo, I x.ahi]] W fun e w' => e = .returned (.bool true) ∧ Below W.heap.size W w') := Lib.hid fun W h => by
    have := park17 x A c W h hxl
    rwa [hp] at this
  have HX := Lib.hid (prkB_iff.1 hp)
  have hn6 : x.sp.length ≤ 6 := (prkB_iff.1 hp).n6
  have HLO : Hid (∀ k (h : k < x.sp.length), x.sp[k].1 = x.lo k ∧ x.sp[k].2.1 = x.hi k ∧ x.sp[k].2.2.1 = x.ho k ∧ x.sp[k].2.2.2 = x.ne k) := Lib.hid fun k h => by simp [Prk.lo, Prk.hi, Prk.ho, Prk.ne, List.getD, h]
  have H11 : Hid (∀ (S : Nat) (W : World), S < 2 ^ x.sp.length → Fours W W.heap.size A x.sp → Calls Try.prog 11 #[.agg #[.slice A x.sp.length c, I x.alo, I x.ahi], I S] W fun e w' => e = .returned (.tuple #[I (needV x S), I 0]) ∧ Below W.heap.size W w') := Lib.hid fun S W hS h => by
    have := need11 x A c S W h hxl
    rwa [needR_ok hp hS] at this
  have H22 : Hid (∀ W : World, Fours W W.heap.size A x.sp → U32W W W.heap.size B ys → 0 < ys.length → Calls Try.prog 22 #[.agg #[.slice A x.sp.length c, I x.alo, I x.ahi], .slice B ys.length d] W fun e w' => ∃ (D : Option Addr) (g : Nat) (cl : List Int), e = .returned (.slice D x.sp.length g) ∧ Ints w' w'.heap.size D cl ∧ Hid (cl.length = x.sp.length ∧ Possible x (crF cl)) ∧ Below W.heap.size W w') := Lib.hid fun W h h1 h2 =>
    (some22 x A B c d ys W (prkB_iff.1 hp) h h1 h2 hyl hyb).mono fun e w' ⟨D, g, cl, k1, k2, k3, k4, k5⟩ => ⟨D, g, cl, k1, k2, Lib.hid ⟨k3, k4⟩, k5⟩
  have H27 : Hid (∀ (W : World) (D : Option Addr) (g : Nat) (cl : List Int), Fours W W.heap.size A x.sp → Ints W W.heap.size D cl → cl.length = x.sp.length → Possible x (crF cl) → Calls Try.prog 27 #[.agg #[.slice A x.sp.length c, I x.alo, I x.ahi], .slice D x.sp.length g] W fun e w' => e = .returned (.bool true) ∧ Below W.heap.size W w') := Lib.hid fun W D g cl h h1 h2 h3 => by
    have := possible27 x A D c g cl W (prkB_iff.1 hp) h h1 (by rw [h2]; exact hxl)
    rwa [possB_iff.2 ⟨h2, h3⟩, h2] at this
  clear hp
  clear hA hx hy hyb
  simp only [Prk.val]
  generalize x.alo = al at *
  generalize x.ahi = ah at *
  have HW : Hid (Below w.heap.size w (w.alloc (.cells #[.slice A x.sp.length c, I al, I ah] 26))) := Lib.hid (below1 _ _)
  have HCP : Hid (∀ W, Below (w.heap.size + 1) (w.alloc (.cells #[.slice A x.sp.length c, I al, I ah] 26)) W → W.cell? ⟨w.heap.size, 0, none⟩ = some (.slice A x.sp.length c) ∧ W.cell? ⟨w.heap.size, 1, none⟩ = some (I al) ∧ W.cell? ⟨w.heap.size, 2, none⟩ = some (I ah) ∧ Below w.heap.size w W) := Lib.hid fun W hW =>
    ⟨(hW.cell (p := ⟨_, _, none⟩) (by simp)).trans (by simp [go_sem]), (hW.cell (p := ⟨_, _, none⟩) (by simp)).trans (by simp [go_sem]), (hW.cell (p := ⟨_, _, none⟩) (by simp)).trans (by simp [go_sem]), (below1 w _).trans (hW.mono (by omega))⟩
  have HST : Hid (∀ V W X : World, Below (w.heap.size + 1) V W → w.heap.size + 1 ≤ W.heap.size → Below W.heap.size W X → Below (w.heap.size + 1) V X ∧ w.heap.size + 1 ≤ X.heap.size) := Lib.hid fun V W X h1 h2 h3 => ⟨h1.trans (h3.mono h2), by have := h3.size; omega⟩
  have hsz : (w.alloc (.cells #[.slice A x.sp.length c, I al, I ah] 26)).heap.size = w.heap.size + 1 := by simp
  go_enter Try.func6, Try.ntmps6
  go_wp2_with (fail)
  refine (H9.out _ (HFI.out _ HW.out).1).mono ?_
  rintro e w1 ⟨b, rfl, hB1⟩
  have hb1 : Below (w.heap.size + 1) (w.alloc (.cells #[.slice A x.sp.length c, I al, I ah] 26)) w1 := hB1.mono (by omega)
  have hz1 : w.heap.size + 1 ≤ w1.heap.size := by have := hB1.size; omega
  obtain ⟨q0, q1, q2, hBw1⟩ := HCP.out w1 hb1
  clear hB1
  cases b
  · rcases Nat.eq_zero_or_pos ys.length with hy0 | hy0
    · go_wp2_with (first
        | (go_at_call 10; refine (H10.out _).mono ?_; rintro e w2 ⟨rfl, hB2⟩)
        | fail)
      refine bodyPost_ret (v := .bool true) (by simp [results, Try.results6, go_sem]) rfl ⟨rfl, hBw1.trans (hB2.mono hBw1.size)⟩
    · go_wp2_with (first
        | (go_at_call 17; refine (H17.out _ (HFI.out _ hBw1).1).mono ?_; rintro e w2 ⟨rfl, hB2⟩; obtain ⟨hb2, hz2⟩ := HST.out _ _ _ hb1 hz1 hB2; obtain ⟨c20, c21, c22, hBw2⟩ := HCP.out w2 hb2)
        | fail)
      go_loop [11, 12] (fun s11 s12 => ∃ (k N : Nat), k ≤ x.sp.length ∧ s12 = I k ∧ s11 = I N ∧ (1 ≤ N ∧ N ≤ 64) ∧ Hid (N = 2 ^ k)) (fun _ s => x.sp.length - (intOf s).toNat)
      case atStart => exact ⟨0, 1, by omega, rfl, rfl, by omega, Lib.hid rfl⟩
      case round =>
        obtain ⟨k, N, hk, rfl, rfl, hN, HN⟩ := hrel
        by_cases hlt : k < x.sp.length
        · have HN2 : Hid (2 * N = 2 ^ (k + 1)) := Lib.hid (by rw [HN.out, Nat.pow_succ]; omega)
          have hN2 : 2 * N ≤ 64 := by rw [HN2.out]; exact pow_six (by omega)
          have p0 : (0 : Int) ≤ (k : Int) := by omega
          have p1 : (k : Int) < (x.sp.length : Int) := by omega
          go_wp2
          go_round
          case rel => exact ⟨k + 1, 2 * N, by omega, by go_num, by go_num, by omega, HN2⟩
          case measure => first | (simp [intOf]; done) | (simp [intOf]; omega)
        · obtain rfl : k = x.sp.length := by omega
          have p0 : (0 : Int) < (N : Int) := by omega
          obtain ⟨a, ha⟩ : ∃ a : Nat, s % (N : Int) = (a : Int) := ⟨(s % (N : Int)).toNat, by have := Int.emod_nonneg s (show (N : Int) ≠ 0 by omega); omega⟩
          obtain ⟨b, hb⟩ : ∃ b : Nat, o % (N : Int) = (b : Int) := ⟨(o % (N : Int)).toNat, by have := Int.emod_nonneg o (show (N : Int) ≠ 0 by omega); omega⟩
          have haN : a < N := by have := Int.emod_lt_of_pos s p0; omega
          have hbN : b < N := by have := Int.emod_lt_of_pos o p0; omega
          go_wp2_with (fail)
          go_quiet (fail)
          go_wp2_with (fail)
          rw [ha, hb]
          clear ha hb
          have hb2' := below_drewN hb2 nq
          have hz2' : w.heap.size + 1 ≤ (w2.drewN nq).heap.size := hz2
          obtain ⟨d0, d1, d2, hBw2'⟩ := HCP.out _ hb2'
          generalize w2.drewN nq = wq at *
          go_loop [15, 16, 17, 18] (fun s15 s16 s17 s18 => ∃ (i U V P : Nat), i ≤ x.sp.length ∧ s18 = I i ∧ s15 = I U ∧ s16 = I V ∧ s17 = I P ∧ (U ≤ 64 ∧ V ≤ 64 ∧ P ≤ 64) ∧ Hid (TwoS a b i U V P)) (fun _ _ _ s => x.sp.length - (intOf s).toNat)
          case atStart => exact ⟨0, 0, 0, 1, by omega, rfl, rfl, rfl, rfl, by omega, Lib.hid ⟨rfl, rfl, rfl⟩⟩
          case round =>
            obtain ⟨i, U, V, P, hi, rfl, rfl, rfl, rfl, hUV, HT⟩ := hrel
            by_cases hlt : i < x.sp.length
            · have HBA : Hid (∀ W : World, Calls Try.prog 24 #[I a, I i] W fun e w' => e = .returned (.bool (a.testBit i)) ∧ W = w') := Lib.hid fun W => bit24 a i W (by omega) (by omega)
              have HBB : Hid (∀ W : World, Calls Try.prog 24 #[I b, I i] W fun e w' => e = .returned (.bool (b.testBit i)) ∧ W = w') := Lib.hid fun W => bit24 b i W (by omega) (by omega)
              have p0 : (0 : Int) ≤ (i : Int) := by omega
              have p1 : (i : Int) < (x.sp.length : Int) := by omega
              obtain ⟨ba, hba⟩ : ∃ q, a.testBit i = q := ⟨_, rfl⟩
              obtain ⟨bb, hbb⟩ : ∃ q, b.testBit i = q := ⟨_, rfl⟩
              rw [hba] at HBA
              rw [hbb] at HBB
              have HEA := Lib.hid hba
              have HEB := Lib.hid hbb
              clear hba hbb
              cases ba
              · cases bb
                · have HT2 : Hid (TwoS a b (i + 1) (U) (V) (2 * P)) := Lib.hid (by simpa using HT.out.step HEA.out HEB.out)
                  clear HT
                  go_wp2_with (first
                    | (go_at_call 24; with_reducible refine (HBA.out _).mono ?_; rintro e w5 ⟨rfl, rfl⟩)
                    | (go_at_call 24; with_reducible refine (HBB.out _).mono ?_; rintro e w5 ⟨rfl, rfl⟩)
                    | fail)
                  go_round
                  case rel => first | exact ⟨i + 1, U, V, 2 * P, by omega, by go_num, by go_num, by go_num, by go_num, HT2.out.le (by omega), HT2⟩ | ((repeat apply Exists.intro); refine ⟨?_, rfl⟩; exact ⟨i + 1, U, V, 2 * P, by omega, by go_num, by go_num, by go_num, by go_num, HT2.out.le (by omega), HT2⟩)
                  case measure => first | (simp [intOf]; done) | (simp [intOf]; omega)
                · have HT2 : Hid (TwoS a b (i + 1) (U + P) (V) (2 * P)) := Lib.hid (by simpa using HT.out.step HEA.out HEB.out)
                  clear HT
                  go_wp2_with (first
                    | (go_at_call 24; with_reducible refine (HBA.out _).mono ?_; rintro e w5 ⟨rfl, rfl⟩)
                    | (go_at_call 24; with_reducible refine (HBB.out _).mono ?_; rintro e w5 ⟨rfl, rfl⟩)
                    | fail)
                  go_round
                  case rel => first | exact ⟨i + 1, U + P, V, 2 * P, by omega, by go_num, by go_num, by go_num, by go_num, HT2.out.le (by omega), HT2⟩ | ((repeat apply Exists.intro); refine ⟨?_, rfl⟩; exact ⟨i + 1, U + P, V, 2 * P, by omega, by go_num, by go_num, by go_num, by go_num, HT2.out.le (by omega), HT2⟩)
                  case measure => first | (simp [intOf]; done) | (simp [intOf]; omega)
              · cases bb
                · have HT2 : Hid (TwoS a b (i + 1) (U + P) (V) (2 * P)) := Lib.hid (by simpa using HT.out.step HEA.out HEB.out)
                  clear HT
                  go_wp2_with (first
                    | (go_at_call 24; with_reducible refine (HBA.out _).mono ?_; rintro e w5 ⟨rfl, rfl⟩)
                    | (go_at_call 24; with_reducible refine (HBB.out _).mono ?_; rintro e w5 ⟨rfl, rfl⟩)
                    | fail)
                  go_round
                  case rel => first | exact ⟨i + 1, U + P, V, 2 * P, by omega, by go_num, by go_num, by go_num, by go_num, HT2.out.le (by omega), HT2⟩ | ((repeat apply Exists.intro); refine ⟨?_, rfl⟩; exact ⟨i + 1, U + P, V, 2 * P, by omega, by go_num, by go_num, by go_num, by go_num, HT2.out.le (by omega), HT2⟩)
                  case measure => first | (simp [intOf]; done) | (simp [intOf]; omega)
                · have HT2 : Hid (TwoS a b (i + 1) (U + P) (V + P) (2 * P)) := Lib.hid (by simpa using HT.out.step HEA.out HEB.out)
                  clear HT
                  go_wp2_with (first
                    | (go_at_call 24; with_reducible refine (HBA.out _).mono ?_; rintro e w5 ⟨rfl, rfl⟩)
                    | (go_at_call 24; with_reducible refine (HBB.out _).mono ?_; rintro e w5 ⟨rfl, rfl⟩)
                    | fail)
                  go_round
                  case rel => first | exact ⟨i + 1, U + P, V + P, 2 * P, by omega, by go_num, by go_num, by go_num, by go_num, HT2.out.le (by omega), HT2⟩ | ((repeat apply Exists.intro); refine ⟨?_, rfl⟩; exact ⟨i + 1, U + P, V + P, 2 * P, by omega, by go_num, by go_num, by go_num, by go_num, HT2.out.le (by omega), HT2⟩)
                  case measure => first | (simp [intOf]; done) | (simp [intOf]; omega)
            · obtain rfl : i = x.sp.length := by omega
              obtain ⟨⟨hUn, hVn⟩, hle1, hle2, hle3, hle4, hle5⟩ := TwoS.needs HX.out HT.out
              have HNa : Hid (∀ W : World, Fours W W.heap.size A x.sp → Calls Try.prog 11 #[.agg #[.slice A x.sp.length c, I al, I ah], I a] W fun e w' => e = .returned (.tuple #[I (needV x a), I 0]) ∧ Below W.heap.size W w') := Lib.hid fun W h => H11.out a W (by rw [← HN.out]; exact haN) h
              have HNb : Hid (∀ W : World, Fours W W.heap.size A x.sp → Calls Try.prog 11 #[.agg #[.slice A x.sp.length c, I al, I ah], I b] W fun e w' => e = .returned (.tuple #[I (needV x b), I 0]) ∧ Below W.heap.size W w') := Lib.hid fun W h => H11.out b W (by rw [← HN.out]; exact hbN) h
              have HNU : Hid (∀ W : World, Fours W W.heap.size A x.sp → Calls Try.prog 11 #[.agg #[.slice A x.sp.length c, I al, I ah], I U] W fun e w' => e = .returned (.tuple #[I (needV x U), I 0]) ∧ Below W.heap.size W w') := Lib.hid fun W h => H11.out U W hUn h
              have HNV : Hid (∀ W : World, Fours W W.heap.size A x.sp → Calls Try.prog 11 #[.agg #[.slice A x.sp.length c, I al, I ah], I V] W fun e w' => e = .returned (.tuple #[I (needV x V), I 0]) ∧ Below W.heap.size W w') := Lib.hid fun W h => H11.out V W hVn h
              have hbda := needV_bd HX.out a
              have hbdb := needV_bd HX.out b
              have HLE : Hid (∀ cl : List Int, Possible x (crF cl) → needTo x a (crF cl) x.sp.length ≤ needV x a) := Lib.hid fun cl h => (need_is (allNeed HX.out) a).2 (crF cl) ⟨h.1, h.2.2⟩
              have ha64 : a < 64 := by omega
              clear HT H11 HN hUn hVn
              generalize needV x a = na at *
              generalize needV x b = nb at *
              generalize needV x U = nu at *
              generalize needV x V = nv at *
              have t1 : True := trivial
              have t2 : True := trivial
              have t3 : True := trivial
              have t4 : True := trivial
              go_wp2_with (first
                | (go_at_call 11; have _t := t1; refine (HNa.out _ (HFI.out _ hBw2').1).mono ?_; rintro e w3 ⟨rfl, hB3⟩; obtain ⟨hb3, hz3⟩ := HST.out _ _ _ hb2' hz2' hB3; obtain ⟨c30, c31, c32, hBw3⟩ := HCP.out w3 hb3; clear t1)
                | (go_at_call 11; have _t := t2; refine (HNb.out _ (HFI.out _ hBw3).1).mono ?_; rintro e w4 ⟨rfl, hB4⟩; obtain ⟨hb4, hz4⟩ := HST.out _ _ _ hb3 hz3 hB4; obtain ⟨c40, c41, c42, hBw4⟩ := HCP.out w4 hb4; clear t2)
                | (go_at_call 11; have _t := t3; refine (HNU.out _ (HFI.out _ hBw4).1).mono ?_; rintro e w5 ⟨rfl, hB5⟩; obtain ⟨hb5, hz5⟩ := HST.out _ _ _ hb4 hz4 hB5; obtain ⟨c50, c51, c52, hBw5⟩ := HCP.out w5 hb5; clear t3)
                | (go_at_call 11; have _t := t4; refine (HNV.out _ (HFI.out _ hBw5).1).mono ?_; rintro e w6 ⟨rfl, hB6⟩; obtain ⟨hb6, hz6⟩ := HST.out _ _ _ hb5 hz5 hB6; obtain ⟨c60, c61, c62, hBw6⟩ := HCP.out w6 hb6; clear t4)
                | (go_at_call 22; refine (H22.out _ (HFI.out _ hBw6).1 (HFI.out _ hBw6).2 hy0).mono ?_; rintro e w7 ⟨D, g, cl, rfl, hI7, HCL, hB7⟩; obtain ⟨hb7, hz7⟩ := HST.out _ _ _ hb6 hz6 hB7; obtain ⟨c70, c71, c72, hBw7⟩ := HCP.out w7 hb7)
                | fail)
              have HI := Lib.hid hI7
              clear hI7
              have HLC : Hid (needTo x a (crF cl) x.sp.length ≤ na) := Lib.hid (HLE.out cl HCL.out.2)
              have HBD := Lib.hid (needTo_bd HX.out a HCL.out.2.1)
              have HSB : Hid (∀ k, k ≤ x.sp.length → sumN (crF cl) k ≤ 6291456) := Lib.hid fun k hk => (sum_crowd HX.out hk fun j hj => HCL.out.2.1 j (Nat.lt_of_lt_of_le hj hk)).2
              have HCC := Lib.hid HCL.out.2.1
              have HNS : Hid (∀ k, needTo x a (crF cl) (k + 1) = needTo x a (crF cl) k + if a.testBit k then need1 (x.ho k) (crF cl k) else 0) := Lib.hid fun k => rfl
              have HLI : Hid (∀ W, Below w7.heap.size w7 W → Ints W W.heap.size D cl) := Lib.hid fun W h => (HI.out.below h).more h.size
              go_loopw [28, 29] (fun s28 s29 wr => ∃ k : Nat, k ≤ x.sp.length ∧ s29 = I k ∧ s28 = I (needTo x a (crF cl) k) ∧ Below w7.heap.size w7 wr) (fun _ s _ => x.sp.length - (intOf s).toNat)
              case atStart => exact ⟨0, by omega, rfl, rfl, (by first | exact Below.refl _ _ | exact below_drewN (Below.refl _ _) _)⟩
              case round =>
                obtain ⟨k, hk, rfl, rfl, hB⟩ := hrel
                have hzr := hB.size
                obtain ⟨m0, m1, m2, hBw⟩ := HCP.out _ (hb7.trans (hB.mono hz7))
                have hsb := HBD.out k hk
                have hsc := HSB.out k hk
                by_cases hlt : k < x.sp.length
                · obtain ⟨lb, lo', hLe, hlz, hlc⟩ := (HLI.out _ hB) (by rw [HCL.out.1]; omega)
                  subst hLe
                  obtain ⟨ab, ao, hAe, haz, hac⟩ := (HFI.out _ hBw).1 (by omega)
                  subst hAe
                  have l0 := hlc k (by rw [HCL.out.1]; omega)
                  obtain ⟨a0, a1, a2, a3⟩ := hac k hlt
                  obtain ⟨e0, e1, e2, e3⟩ := HLO.out k hlt
                  rw [e0] at a0
                  rw [e1] at a1
                  rw [e2] at a2
                  rw [e3] at a3
                  rw [show cl[k]'(by rw [HCL.out.1]; omega) = crF cl k from by simp [crF, List.getD, HCL.out.1, hlt]] at l0
                  have HNK := Lib.hid (HNS.out k)
                  obtain ⟨ho1, ho2⟩ := HX.out.hold k hlt
                  have hpk := HX.out.peo k hlt
                  have hck := HCC.out k hlt
                  have hnb := need1_bd (h := x.ho k) (p := crF cl k) ho1 (by omega)
                  have H25 : Hid (∀ W : World, Calls Try.prog 25 #[.agg #[I (x.lo k), I (x.hi k), I (x.ho k), I (x.ne k)], I (crF cl k)] W fun e w' => e = .returned (I (need1 (x.ho k) (crF cl k))) ∧ Below W.heap.size W w') := Lib.hid fun W => of25 _ _ _ _ _ W ho1 ho2 (by omega) (by omega)
                  have HBK : Hid (∀ W : World, Calls Try.prog 24 #[I a, I k] W fun e w' => e = .returned (.bool (a.testBit k)) ∧ W = w') := Lib.hid fun W => bit24 a k W (by omega) (by omega)
                  clear hlc hac e0 e1 e2 e3
                  generalize needTo x a (crF cl) k = sm at *
                  generalize need1 (x.ho k) (crF cl k) = nn at *
                  generalize crF cl k = v at *
                  generalize x.lo k = lo at *
                  generalize x.hi k = hi at *
                  generalize x.ho k = ho at *
                  generalize x.ne k = ne at *
                  obtain ⟨b', hb⟩ : ∃ b', a.testBit k = b' := ⟨_, rfl⟩
                  rw [hb] at HNK HBK
                  have p0 : (0 : Int) ≤ (k : Int) := by omega
                  have p1 : (k : Int) < (x.sp.length : Int) := by omega
                  have hwr : IntKind.i64.wrap (sm + nn) = sm + nn := IntWalk.i64_in _ (by omega)
                  clear hb
                  have HCX : Hid (∀ W, Below wr.heap.size wr W → W.cell? ⟨w.heap.size, 0, none⟩ = some (.slice (some ⟨ab, ao, none⟩) x.sp.length c) ∧ W.cell? ⟨ab, ao + k * 4, none⟩ = some (I lo) ∧ W.cell? ⟨ab, ao + k * 4 + 1, none⟩ = some (I hi) ∧ W.cell? ⟨ab, ao + k * 4 + 2, none⟩ = some (I ho) ∧ W.cell? ⟨ab, ao + k * 4 + 3, none⟩ = some (I ne) ∧ W.cell? ⟨lb, lo' + k, none⟩ = some (I v)) := Lib.hid fun W hW =>
                    ⟨(hW.cell (p := ⟨w.heap.size, 0, none⟩) (show w.heap.size < _ by omega)).trans m0, (hW.cell (p := ⟨ab, ao + k * 4, none⟩) haz).trans a0, (hW.cell (p := ⟨ab, ao + k * 4 + 1, none⟩) haz).trans a1, (hW.cell (p := ⟨ab, ao + k * 4 + 2, none⟩) haz).trans a2, (hW.cell (p := ⟨ab, ao + k * 4 + 3, none⟩) haz).trans a3, (hW.cell (p := ⟨lb, lo' + k, none⟩) hlz).trans l0⟩
                  cases b'
                  · go_wp2_with (first
                      | (go_at_call 24; refine (HBK.out _).mono ?_; rintro e w2 ⟨rfl, rfl⟩)
                      | fail)
                    go_roundw
                    case rel => first | exact ⟨k + 1, by omega, by go_num, by rw [HNK.out]; simp, hB⟩ | ((repeat apply Exists.intro); refine ⟨?_, rfl⟩; exact ⟨k + 1, by omega, by go_num, by rw [HNK.out]; simp, hB⟩)
                    case measure => first | (simp [intOf]; done) | (simp [intOf]; omega)
                  · go_wp2_with (first
                      | (go_at_call 24; refine (HBK.out _).mono ?_; rintro e w2 ⟨rfl, rfl⟩)
                      | fail)
                    refine (wpIn_wide (n := 9)).1 ?_
                    refine wpIn_region_plan (Plan.ons [0, 1, 2, 3, 4, 5, 6, 7, 8, 9, 10, 11, 12] .fin) [0] (fun W' => Below wr.heap.size wr W') [] rfl (by kernel_rfl) (by kernel_rfl) (fun _ d _ _ _ h => by cases d <;> exact h) (Below.refl _ _).drew ?_
                    (refine ordQ_held (I sm) rfl rfl rfl rfl (fun W' hC' => ?_) (fun K hK => ?_); (focus (obtain _ := hC'; go_simp; try exact ⟨rfl, rfl⟩)); go_simp; refine hK _ ?_; clear hK K)
                    obtain ⟨n0, n1, n2, n3, n4, n5⟩ := HCX.out wr (Below.refl _ _)
                    iterate 9 (refine ordQ_li rfl rfl rfl (fun K hK => ?_); go_simp; refine hK _ ?_; clear hK K)
                    refine ordQ_hv rfl rfl rfl (fun K hK => ?_)
                    gi_wp2_with (refine And.intro trivial ?_; gi_at_call 25; refine callsIn_wide.2 ((H25.out _).mono ?_); rintro e w5 ⟨rfl, hB5⟩)
                    have hb5 : Below wr.heap.size wr w5 := by simpa using (Below.refl _ _).drew.trans hB5
                    refine hK _ _ (fun _ => hb5) ?_
                    clear hK K hB5
                    iterate 2 (refine ordQ_li rfl rfl rfl (fun K hK => ?_); go_simp; refine hK _ ?_; clear hK K)
                    refine ordQ_fin ?_
                    have hB2 := hB.trans (hb5.mono (by omega))
                    go_wp2_with (fail)
                    go_roundw
                    case rel => first | exact ⟨k + 1, by omega, by go_num, by rw [HNK.out]; simp, hB2⟩ | ((repeat apply Exists.intro); refine ⟨?_, rfl⟩; exact ⟨k + 1, by omega, by go_num, by rw [HNK.out]; simp, hB2⟩)
                    case measure => first | (simp [intOf]; done) | (simp [intOf]; omega)
                · obtain rfl : k = x.sp.length := by omega
                  have hle := HLC.out
                  generalize needTo x a (crF cl) x.sp.length = sm at *
                  have hB8' : True := trivial
                  go_wp2_with (first
                    | (go_at_call 27; refine (H27.out _ _ _ _ (HFI.out _ hBw).1 (HLI.out _ hB) HCL.out.1 HCL.out.2).mono ?_; rintro e w8 ⟨rfl, hB8⟩)
                    | (go_at_call 10; refine (H10.out _).mono ?_; rintro e w9 ⟨rfl, hB9⟩)
                    | fail)
                  refine bodyPost_ret (v := .bool true) (by simp [results, Try.results6, go_sem]) rfl ⟨rfl, (hBw.trans (hB8.mono hBw.size)).trans (hB9.mono (hBw.trans (hB8.mono hBw.size)).size)⟩
  · go_wp2_with (first
      | (go_at_call 10; refine (H10.out _).mono ?_; rintro e w2 ⟨rfl, hB2⟩)
      | fail)
    refine bodyPost_ret (v := .bool true) (by simp [results, Try.results6, go_sem]) rfl ⟨rfl, hBw1.trans (hB2.mono hBw1.size)⟩
theorem need_any (x : Prk) (A B : Option Addr) (c d : Nat) (s o : Int) (ys : List Int) (w : World) (hA : Fours w w.heap.size A x.sp) (hx : Prk64 x) (hs : 0 ≤ s ∧ s ≤ 255) (ho : 0 ≤ o ∧ o ≤ 255) (hy : U32W w w.heap.size B ys) (hyl : ys.length ≤ 9223372036854775807) (hyb : ∀ y ∈ ys, 0 ≤ y ∧ y ≤ 4294967295) :
    Calls Try.prog 6 #[x.val A c, .int .u8 s, .int .u8 o, .slice B ys.length d] w fun e w' => e = .returned (.bool true) ∧ Below w.heap.size w w' := by
  cases hp : prkB x
  · exact need_false x A B c d s o ys w hA hx hs ho hy hyl hyb hp
  · exact need_ok x A B c d s o ys w hA hx hs ho hy hyl hyb hp
end Go.Proofs.Ytfebhofihioaoaa
