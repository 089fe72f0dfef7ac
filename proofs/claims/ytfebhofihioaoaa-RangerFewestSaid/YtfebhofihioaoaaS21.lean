/- The program's park is made. -/
import Derived.Test.YtfebhofihioaoaaS20
namespace Go.Proofs.Ytfebhofihioaoaa
set_option linter.unusedVariables false
set_option linter.unusedSimpArgs false
open Go Go.RowKit

/-- The posts below i whose rangers can come to a spot, as bits. -/
def fromTo (x : Prk) (i s : Nat) : Nat := bitsOf (fun j => frX x j s) i
def gK (x : Prk) (i k s : Nat) : Nat := if s < x.n then (if s < k then fromTo x (i + 1) s else fromTo x i s) else 0
theorem gK_next (x : Prk) (i : Nat) : gK x i x.n = gK x (i + 1) 0 := by
  funext s
  unfold gK
  by_cases h : s < x.n <;> simp [h]
theorem gK_start (x : Prk) : gK x 0 0 = fun _ => 0 := by
  funext s
  unfold gK fromTo
  simp [bitsOf]
theorem gK_end (x : Prk) {s : Nat} (h : s < x.n) : gK x x.n 0 s = fromN x s := by simp [gK, h, fromTo, fromN]
theorem fromTo_lt {x : Prk} {i s : Nat} (h : i ≤ 6) : fromTo x i s < 64 := by
  have h1 := bitsOf_lt (fun j => frX x j s) i
  have h2 : (2 : Nat) ^ i ≤ 2 ^ 6 := Nat.pow_le_pow_right (by decide) h
  unfold fromTo
  omega
theorem or_pow {a i : Nat} (h : a < 2 ^ i) : a ||| 2 ^ i = a + 2 ^ i := by
  rw [Nat.or_comm, Nat.add_comm]
  have := Nat.two_pow_add_eq_or_of_lt h 1
  rw [Nat.mul_one] at this
  exact this.symm
theorem gK_or {x : Prk} {i k : Nat} (hk : k < x.n) (hf : frX x i k = true) : gK x i (k + 1) k = gK x i k k ||| 2 ^ i := by
  have h1 : gK x i (k + 1) k = fromTo x (i + 1) k := by simp [gK, hk]
  have h2 : gK x i k k = fromTo x i k := by simp [gK, hk]
  rw [h1, h2]
  unfold fromTo
  rw [bitsOf_sum, if_pos hf, or_pow (bitsOf_lt _ i)]
theorem gK_far {x : Prk} {i k s : Nat} (hs : s ≠ k) : gK x i (k + 1) s = gK x i k s := by
  unfold gK
  by_cases h1 : s < k
  · rw [if_pos (show s < k + 1 by omega), if_pos h1]
  · rw [if_neg (show ¬ s < k + 1 by omega), if_neg h1]
theorem gK_not {x : Prk} {i k : Nat} (hf : frX x i k = false) : gK x i (k + 1) = gK x i k := by
  funext s
  by_cases hs : s = k
  · subst hs
    have e : fromTo x (i + 1) s = fromTo x i s := by
      unfold fromTo
      rw [bitsOf_sum, hf]
      simp
    unfold gK
    simp [e]
  · exact gK_far hs
theorem gK_lt {x : Prk} (hn : x.n ≤ 6) {i k s : Nat} (hi : i < x.n) : gK x i k s < 64 := by
  unfold gK
  split
  · split
    · exact fromTo_lt (by omega)
    · exact fromTo_lt (by omega)
  · decide
/-- The cells of the program's park. -/
def parkC (x : Prk) (A : Option Addr) (c : Nat) (v : Value) (g : Nat → Nat) : List Value := [.slice A x.sp.length c, I x.alo, I x.ahi, v, I (g 0 : Nat), I (g 1 : Nat), I (g 2 : Nat), I (g 3 : Nat), I (g 4 : Nat), I (g 5 : Nat)]
theorem parkC_at (x : Prk) (A : Option Addr) (c : Nat) (v : Value) (g : Nat → Nat) {k : Nat} (hk : k < 6) : (parkC x A c v g)[4 + k]? = some (I (g k : Nat)) := by
  obtain rfl | rfl | rfl | rfl | rfl | rfl : k = 0 ∨ k = 1 ∨ k = 2 ∨ k = 3 ∨ k = 4 ∨ k = 5 := by omega
  all_goals rfl
theorem parkC_set (x : Prk) (A : Option Addr) (c : Nat) (v : Value) (g g' : Nat → Nat) {k : Nat} (hk : k < 6) (hg : ∀ s, s ≠ k → g' s = g s) : (parkC x A c v g).set (4 + k) (I (g' k : Nat)) = parkC x A c v g' := by
  obtain rfl | rfl | rfl | rfl | rfl | rfl : k = 0 ∨ k = 1 ∨ k = 2 ∨ k = 3 ∨ k = 4 ∨ k = 5 := by omega
  all_goals (unfold parkC; simp (disch := decide) only [hg, List.set_cons_succ, List.set_cons_zero, Nat.reduceAdd])
theorem park_of {W : World} {P : Nat} {x : Prk} {A : Option Addr} {c : Nat} {v : Value} (hn : x.n ≤ 6) (h : Box W P (parkC x A c v (gK x x.n 0))) (hA : Fours W W.heap.size A x.sp) : ParkAt W P x A c v where
  lt := h.1
  sp := (h.at_ 0 _ rfl).1
  alo := (h.at_ 1 _ rfl).1
  ahi := (h.at_ 2 _ rfl).1
  needs := (h.at_ 3 _ rfl).1
  from_ := fun s hs => by
    have := (h.at_ (4 + s) _ (parkC_at x A c v _ (by omega))).1
    rwa [gK_end x hs] at this
  row := hA
noncomputable def needsTo (x : Prk) (k : Nat) : List Int := (List.range k).map (needV x)
theorem needsTo_succ (x : Prk) (k : Nat) : needsTo x (k + 1) = needsTo x k ++ [needV x k] := by simp [needsTo, List.range_succ]
theorem needsTo_len (x : Prk) (k : Nat) : (needsTo x k).length = k := by simp [needsTo]
set_option maxRecDepth 100000 in
set_option maxHeartbeats 8000000 in
theorem newPark31 (x : Prk) (A : Option Addr) (c : Nat) (w : World) (hx : PrkOk x) (hA : Fours w w.heap.size A x.sp) :
    Calls Try.prog 31 #[x.val A c] w fun e w' => ∃ (B : Option Addr) (d : Nat), e = .returned (.pointer (some ⟨w.heap.size + 1, 0, none⟩)) ∧ ParkAt w' (w.heap.size + 1) x A c (.slice B (2 ^ x.n) d) ∧ Ints w' w'.heap.size B (needsTo x (2 ^ x.n)) ∧ Below w.heap.size w w' := by
  have HX := Lib.hid hx
  have hn6 : x.sp.length ≤ 6 := hx.n6
  obtain ⟨i0, hi0, hi1, hi2, hi3⟩ := info_parts info3
  have HI0 := Lib.hid hi0; have HI1 := Lib.hid hi1; have HI2 := Lib.hid hi2; have HI3 := Lib.hid hi3
  have hu : Try.prog.underlying 27 = some (.slice 3) := Try.underlying27
  have HU := Lib.hid hu
  obtain ⟨N, hN, hNI, hN1, hN2⟩ := pow_nat hx.n6
  have HLO : Hid (∀ k (h : k < x.sp.length), x.sp[k].1 = x.lo k ∧ x.sp[k].2.1 = x.hi k ∧ x.sp[k].2.2.1 = x.ho k ∧ x.sp[k].2.2.2 = x.ne k) := Lib.hid fun k h => by simp [Prk.lo, Prk.hi, Prk.ho, Prk.ne, List.getD, h]
  have HA := Lib.hid hA
  rw [← hN]
  have HNI : Hid ((2 : Int) ^ x.sp.length = (N : Int)) := Lib.hid hNI
  have hwN : wrap64 ((2 : Int) ^ x.sp.length) = N := by rw [HNI.out]; exact IntWalk.wrap64_in _ ⟨by omega, by omega⟩
  have hwS : IntKind.i64.wrap ((2 : Int) ^ x.sp.length) = N := by rw [HNI.out]; exact IntWalk.i64_in _ (by omega)
  have HG0 : Hid (parkC x A c (.slice none 0 0) (gK x 0 0) = [.slice A x.sp.length c, I x.alo, I x.ahi, .slice none 0 0, I 0, I 0, I 0, I 0, I 0, I 0]) := Lib.hid (by rw [gK_start]; rfl)
  have HPO : Hid (∀ W v, Box W (w.heap.size + 1) (parkC x A c v (gK x x.sp.length 0)) → Below w.heap.size w W → ParkAt W (w.heap.size + 1) x A c v) := Lib.hid fun W v h hB => park_of hx.n6 h ((HA.out.below hB).more hB.size)
  have H47 : Hid (∀ (k : Nat) (v : Value) (W : World), k < 64 → ParkAt W (w.heap.size + 1) x A c v → Calls Try.prog 47 #[.pointer (some ⟨w.heap.size + 1, 0, none⟩), I k] W fun e w' => e = .returned (I (needV x k)) ∧ Below W.heap.size W w') := Lib.hid fun k v W hk hW => need47 x _ A c v k W hx hW hk
  clear hA hx hi0 hi1 hi2 hi3 hu hN hNI
  simp only [Prk.val]
  obtain ⟨al, hal⟩ : ∃ al, x.alo = al := ⟨_, rfl⟩
  obtain ⟨ah, hah⟩ : ∃ ah, x.ahi = ah := ⟨_, rfl⟩
  rw [hal, hah] at HG0 ⊢
  have HIB : Hid (∀ W, Below w.heap.size w W → ∀ k, k < x.sp.length → ∃ ab ao, A = some ⟨ab, ao, none⟩ ∧ ab < w.heap.size ∧ W.cell? ⟨ab, ao + k * 4, none⟩ = some (I (x.lo k)) ∧ W.cell? ⟨ab, ao + k * 4 + 1, none⟩ = some (I (x.hi k)) ∧ W.cell? ⟨ab, ao + k * 4 + 2, none⟩ = some (I (x.ho k)) ∧ W.cell? ⟨ab, ao + k * 4 + 3, none⟩ = some (I (x.ne k))) := Lib.hid fun W hW k hk => by
    obtain ⟨ab, ao, hAe, haz, hac⟩ := (HA.out.below hW) (by omega)
    obtain ⟨a0, a1, a2, a3⟩ := hac k hk
    obtain ⟨e0, e1, e2, e3⟩ := HLO.out k hk
    rw [e0] at a0
    rw [e1] at a1
    rw [e2] at a2
    rw [e3] at a3
    exact ⟨ab, ao, hAe, haz, a0, a1, a2, a3⟩
  have HAL := Lib.hid hal
  have HAH := Lib.hid hah
  clear hal hah
  have HCP : Hid (∀ W, Below (w.heap.size + 1) (w.alloc (.cells #[.slice A x.sp.length c, I al, I ah] 26)) W → W.cell? ⟨w.heap.size, 0, none⟩ = some (.slice A x.sp.length c) ∧ Below w.heap.size w W) := Lib.hid fun W hW =>
    ⟨(hW.cell (p := ⟨_, _, none⟩) (by simp)).trans (by simp [go_sem]), (below1 w _).trans (hW.mono (by omega))⟩
  have hsz : (w.alloc (.cells #[.slice A x.sp.length c, I al, I ah] 26)).heap.size = w.heap.size + 1 := by simp
  have HP0 : Hid (Box ((w.alloc (.cells #[.slice A x.sp.length c, I al, I ah] 26)).alloc (.cells #[.slice A x.sp.length c, I al, I ah, .slice none 0 0, I 0, I 0, I 0, I 0, I 0, I 0] 60)) (w.heap.size + 1) (parkC x A c (.slice none 0 0) (gK x 0 0))) := Lib.hid (by
    rw [HG0.out]
    have := Box.new (w.alloc (.cells #[.slice A x.sp.length c, I al, I ah] 26)) [.slice A x.sp.length c, I al, I ah, .slice none 0 0, I 0, I 0, I 0, I 0, I 0, I 0] 60
    simpa only [World.size_alloc] using this)
  have HBB : Hid (Below (w.heap.size + 1) (w.alloc (.cells #[.slice A x.sp.length c, I al, I ah] 26)) ((w.alloc (.cells #[.slice A x.sp.length c, I al, I ah] 26)).alloc (.cells #[.slice A x.sp.length c, I al, I ah, .slice none 0 0, I 0, I 0, I 0, I 0, I 0, I 0] 60))) := Lib.hid ((Below.refl _ _).alloc (by simp) _)
  have hsz2 : ((w.alloc (.cells #[.slice A x.sp.length c, I al, I ah] 26)).alloc (.cells #[.slice A x.sp.length c, I al, I ah, .slice none 0 0, I 0, I 0, I 0, I 0, I 0, I 0] 60)).heap.size = w.heap.size + 2 := by simp
  clear HG0
  go_enter Try.func31, Try.ntmps31
  go_wp2_with (fail)
  generalize (w.alloc (.cells #[.slice A x.sp.length c, I al, I ah] 26)).alloc (.cells #[.slice A x.sp.length c, I al, I ah, .slice none 0 0, I 0, I 0, I 0, I 0, I 0, I 0] 60) = w0 at *
  generalize hwz0 : w.alloc (.cells #[.slice A x.sp.length c, I al, I ah] 26) = wa at *
  clear hwz0
  go_loopw [14] (fun s14 wr => ∃ i : Nat, i ≤ x.sp.length ∧ s14 = I i ∧ Below (w.heap.size + 1) wa wr ∧ w.heap.size + 2 ≤ wr.heap.size ∧ Hid (Box wr (w.heap.size + 1) (parkC x A c (.slice none 0 0) (gK x i 0)))) (fun s _ => x.sp.length - (intOf s).toNat)
  case atStart => exact ⟨0, by omega, rfl, HBB.out, by omega, HP0⟩
  case round =>
    clear HBB HP0 hsz2
    obtain ⟨i, hi, rfl, hB, hz, HP⟩ := hrel
    obtain ⟨c0, hBw⟩ := HCP.out _ hB
    by_cases hlt : i < x.sp.length
    · obtain ⟨ab, ao, hAe, haz, a0, a1, a2, a3⟩ := HIB.out _ hBw i hlt
      subst hAe
      obtain ⟨hne, hnl⟩ := near_lt HX.out hlt
      rw [hne] at a3
      have HFR : Hid (∀ k, frX x i k = (i == k || (x.ne i).toNat.testBit k)) := Lib.hid fun k => rfl
      clear hne
      generalize (x.ne i).toNat = m at *
      generalize x.lo i = lo at *
      generalize x.hi i = hi at *
      generalize x.ho i = ho at *
      have p0 : (0 : Int) ≤ (i : Int) := by omega
      have p1 : (i : Int) < (x.sp.length : Int) := by omega
      have p3 : (i : Int) ≤ 64 := by omega
      have p4 : (i : Int) < 6 := by omega
      have HXa : Hid (Box (wr.alloc (.cells #[I lo, I hi, I ho, I m] 48)) wr.heap.size [I lo, I hi, I ho, I m]) := Lib.hid (Box.new wr [I lo, I hi, I ho, I m] 48)
      have hBa : Below (w.heap.size + 1) wa (wr.alloc (.cells #[I lo, I hi, I ho, I m] 48)) := hB.alloc (by omega) _
      have HPa := Lib.hid (HP.out.alloc (.cells #[I lo, I hi, I ho, I m] 48))
      have hza : (wr.alloc (.cells #[I lo, I hi, I ho, I m] 48)).heap.size = wr.heap.size + 1 := by simp
      have c0a := (HCP.out _ hBa).1
      clear HP
      go_wp2_with (fail)
      clear a0 a1 a2 a3 c0 c0a
      generalize hwb : wr.alloc (.cells #[I lo, I hi, I ho, I m] 48) = wb at *
      clear hwb
      obtain ⟨T5, hT5⟩ : ∃ T5, T5 = wr.heap.size := ⟨_, rfl⟩
      rw [← hT5] at HXa ⊢
      have hT5b : w.heap.size + 2 ≤ T5 := by omega
      have hza' : wb.heap.size = T5 + 1 := by omega
      clear hT5 hza hB hBw hz
      go_loopw [22] (fun s22 wr => ∃ k : Nat, k ≤ x.sp.length ∧ s22 = I k ∧ Below (w.heap.size + 1) wa wr ∧ T5 + 1 ≤ wr.heap.size ∧ Hid (Box wr T5 [I lo, I hi, I ho, I m]) ∧ Hid (Box wr (w.heap.size + 1) (parkC x (some ⟨ab, ao, none⟩) c (.slice none 0 0) (gK x i k)))) (fun s _ => x.sp.length - (intOf s).toNat)
      case atStart => exact ⟨0, by omega, rfl, hBa, by omega, HXa, HPa⟩
      case round =>
        clear hBa HXa HPa
        obtain ⟨k, hk, rfl, hB, hz, HXr, HPr⟩ := hrel
        by_cases hlk : k < x.sp.length
        · have q0 : (0 : Int) ≤ (k : Int) := by omega
          have q1 : (k : Int) < (x.sp.length : Int) := by omega
          have q3 : (k : Int) ≤ 64 := by omega
          have q4 : (k : Int) < 6 := by omega
          have hk6 : k < 6 := by omega
          obtain ⟨x2, _⟩ := HXr.out.at_ 2 _ rfl
          obtain ⟨x3, _⟩ := HXr.out.at_ 3 _ rfl
          obtain ⟨f0, f1⟩ := HPr.out.at_ (4 + k) _ (parkC_at x _ c _ _ hk6)
          have hgl := gK_lt (k := k) (s := k) HX.out.n6 hlt
          have hpl : (2 : Nat) ^ i < 64 := by
            have h2 : (2 : Nat) ^ i ≤ 2 ^ 5 := Nat.pow_le_pow_right (by decide) (by omega)
            omega
          have hor := or_two hgl hpl
          obtain ⟨hb1, hb2⟩ := bit_step (k := k) hnl
          have HF1 := Lib.hid (HFR.out k)
          have HYES : Hid (frX x i k = true → gK x i (k + 1) k = gK x i k k ||| 2 ^ i) := Lib.hid (gK_or hlk)
          have HST : Hid (frX x i k = true → (parkC x (some ⟨ab, ao, none⟩) c (.slice none 0 0) (gK x i k)).set (4 + k) (I (gK x i (k + 1) k : Nat)) = parkC x (some ⟨ab, ao, none⟩) c (.slice none 0 0) (gK x i (k + 1))) := Lib.hid fun _ => parkC_set _ _ _ _ _ _ hk6 fun s hs => gK_far hs
          have HNOT : Hid (frX x i k = false → gK x i (k + 1) = gK x i k) := Lib.hid gK_not
          generalize hgk : gK x i k k = gv at *
          clear hgk
          obtain ⟨bt, hbt⟩ : ∃ b, m.testBit k = b := ⟨_, rfl⟩
          rw [hbt] at hb2 HF1
          generalize m / 2 ^ k = sq at *
          clear hbt
          obtain ⟨pw, hpw⟩ : ∃ pw : Nat, 2 ^ i = pw := ⟨_, rfl⟩
          have hpi : ((2 : Int) ^ i) = (pw : Int) := by rw [← hpw]; push_cast; rfl
          rw [hpw] at hor hpl HYES
          clear hpw
          have hwp : IntKind.i64.wrap (pw : Int) = (pw : Int) := IntWalk.i64_in _ (by omega)
          have hwp2 : wrap64 (pw : Int) = (pw : Int) := IntWalk.wrap64_in _ ⟨by omega, by omega⟩
          by_cases hik : i = k
          · subst hik
            have HFT : Hid (frX x i i = true) := Lib.hid (by rw [HF1.out]; simp)
            have HV := Lib.hid (HYES.out HFT.out)
            have HST2 : Hid ((parkC x (some ⟨ab, ao, none⟩) c (.slice none 0 0) (gK x i i)).set (4 + i) (I ((gv ||| pw : Nat) : Int)) = parkC x (some ⟨ab, ao, none⟩) c (.slice none 0 0) (gK x i (i + 1))) := Lib.hid (by rw [← HV.out]; exact HST.out HFT.out)
            clear HF1 HYES HST HNOT
            generalize gv ||| pw = gw at *
            go_wp2_with (fail)
            refine (wpIn_wide (n := 9)).1 ?_
            refine wpIn_region_plan (Plan.ons [0, 1, 2, 3, 4, 5, 6, 7, 8, 9, 10, 11, 12] .fin) [] (fun _ => True) [] rfl (by kernel_rfl) (by kernel_rfl) (fun _ d _ _ _ h => by cases d <;> exact h) trivial ?_
            iterate 12 (refine ordQ_li rfl rfl rfl (fun K hK => ?_); go_simp; refine hK _ ?_; clear hK K)
            (refine ordQ_hv rfl rfl rfl (fun K hK => ?_); gi_wp2; refine hK _ _ (fun _ => trivial) ?_; clear hK K)
            refine ordQ_fin ?_
            have HP2 : Hid (Box ((wr.setCell ⟨w.heap.size + 1, 4 + i, none⟩ (I (gw : Int))).drew) (w.heap.size + 1) (parkC x (some ⟨ab, ao, none⟩) c (.slice none 0 0) (gK x i (i + 1)))) := Lib.hid (by rw [← HST2.out]; exact (HPr.out.set (4 + i) _).drew)
            have HX2 : Hid (Box ((wr.setCell ⟨w.heap.size + 1, 4 + i, none⟩ (I (gw : Int))).drew) T5 [I lo, I hi, I ho, I m]) := Lib.hid ((HXr.out.far (p := ⟨w.heap.size + 1, 4 + i, none⟩) (show w.heap.size + 1 ≠ T5 by omega) _).drew)
            have HB2 : Hid (Below (w.heap.size + 1) wa ((wr.setCell ⟨w.heap.size + 1, 4 + i, none⟩ (I (gw : Int))).drew)) := Lib.hid ((hB.setCell (p := ⟨w.heap.size + 1, 4 + i, none⟩) (Nat.le_refl _) _).drew)
            go_wp2_with (fail)
            go_roundw
            case rel => first | exact ⟨i + 1, by omega, by go_num, HB2.out, by simp; omega, HX2, HP2⟩ | ((repeat apply Exists.intro); refine ⟨?_, rfl⟩; exact ⟨i + 1, by omega, by go_num, HB2.out, by simp; omega, HX2, HP2⟩)
            case measure => first | (simp [intOf]; done) | (simp [intOf]; omega)
          · have eik : ((i : Int) == (k : Int)) = false := by simp; omega
            have eik' : (i == k) = false := by simp [hik]
            cases bt
            · simp only [if_false, Bool.false_eq_true] at hb2
              have HFT : Hid (frX x i k = false) := Lib.hid (by rw [HF1.out, eik']; rfl)
              have HGN := Lib.hid (HNOT.out HFT.out)
              clear HF1 HYES HST HNOT
              go_wp2_with (fail)
              go_roundw
              case rel => first | exact ⟨k + 1, by omega, by go_num, hB, by omega, HXr, by rw [HGN.out]; exact HPr⟩ | ((repeat apply Exists.intro); refine ⟨?_, rfl⟩; exact ⟨k + 1, by omega, by go_num, hB, by omega, HXr, by rw [HGN.out]; exact HPr⟩)
              case measure => first | (simp [intOf]; done) | (simp [intOf]; omega)
            · simp only [if_true] at hb2
              have HFT : Hid (frX x i k = true) := Lib.hid (by rw [HF1.out, eik']; rfl)
              have HV := Lib.hid (HYES.out HFT.out)
              have HST2 : Hid ((parkC x (some ⟨ab, ao, none⟩) c (.slice none 0 0) (gK x i k)).set (4 + k) (I ((gv ||| pw : Nat) : Int)) = parkC x (some ⟨ab, ao, none⟩) c (.slice none 0 0) (gK x i (k + 1))) := Lib.hid (by rw [← HV.out]; exact HST.out HFT.out)
              clear HF1 HYES HST HNOT
              generalize gv ||| pw = gw at *
              go_wp2_with (fail)
              refine (wpIn_wide (n := 9)).1 ?_
              refine wpIn_region_plan (Plan.ons [0, 1, 2, 3, 4, 5, 6, 7, 8, 9, 10, 11, 12] .fin) [] (fun _ => True) [] rfl (by kernel_rfl) (by kernel_rfl) (fun _ d _ _ _ h => by cases d <;> exact h) trivial ?_
              iterate 12 (refine ordQ_li rfl rfl rfl (fun K hK => ?_); go_simp; refine hK _ ?_; clear hK K)
              (refine ordQ_hv rfl rfl rfl (fun K hK => ?_); gi_wp2; refine hK _ _ (fun _ => trivial) ?_; clear hK K)
              refine ordQ_fin ?_
              have HP2 : Hid (Box ((wr.setCell ⟨w.heap.size + 1, 4 + k, none⟩ (I (gw : Int))).drew) (w.heap.size + 1) (parkC x (some ⟨ab, ao, none⟩) c (.slice none 0 0) (gK x i (k + 1)))) := Lib.hid (by rw [← HST2.out]; exact (HPr.out.set (4 + k) _).drew)
              have HX2 : Hid (Box ((wr.setCell ⟨w.heap.size + 1, 4 + k, none⟩ (I (gw : Int))).drew) T5 [I lo, I hi, I ho, I m]) := Lib.hid ((HXr.out.far (p := ⟨w.heap.size + 1, 4 + k, none⟩) (show w.heap.size + 1 ≠ T5 by omega) _).drew)
              have HB2 : Hid (Below (w.heap.size + 1) wa ((wr.setCell ⟨w.heap.size + 1, 4 + k, none⟩ (I (gw : Int))).drew)) := Lib.hid ((hB.setCell (p := ⟨w.heap.size + 1, 4 + k, none⟩) (Nat.le_refl _) _).drew)
              go_wp2_with (fail)
              go_roundw
              case rel => first | exact ⟨k + 1, by omega, by go_num, HB2.out, by simp; omega, HX2, HP2⟩ | ((repeat apply Exists.intro); refine ⟨?_, rfl⟩; exact ⟨k + 1, by omega, by go_num, HB2.out, by simp; omega, HX2, HP2⟩)
              case measure => first | (simp [intOf]; done) | (simp [intOf]; omega)
        · obtain rfl : k = x.sp.length := by omega
          have HPN : Hid (Box wr (w.heap.size + 1) (parkC x (some ⟨ab, ao, none⟩) c (.slice none 0 0) (gK x (i + 1) 0))) := Lib.hid (by rw [← gK_next]; exact HPr.out)
          go_wp2_with (fail)
          go_roundw
          case rel => first | exact ⟨i + 1, by omega, by go_num, hB, by omega, HPN⟩ | ((repeat apply Exists.intro); refine ⟨?_, rfl⟩; exact ⟨i + 1, by omega, by go_num, hB, by omega, HPN⟩)
          case measure => first | (simp [intOf]; done) | (simp [intOf]; omega)
    · obtain rfl : i = x.sp.length := by omega
      have hw1z := hz
      have HP1 := HP
      have HO1 : Hid (wr.ownsRow (w.heap.size + 2) 3 1 (.slice none 0 0) 0 ((needsTo x 0).map I)) := Lib.hid (by simpa [needsTo] using World.ownsRow_nil wr (w.heap.size + 2) 3 1)
      generalize wr = w1 at *
      go_wp2_with (fail)
      go_loopw [54] (fun s54 wr => ∃ (k : Nat) (v : Value), k ≤ N ∧ s54 = I k ∧ Below (w.heap.size + 1) wa wr ∧ w.heap.size + 2 ≤ wr.heap.size ∧ Hid (Box wr (w.heap.size + 1) (parkC x A c v (gK x x.sp.length 0))) ∧ Hid (wr.ownsRow (w.heap.size + 2) 3 1 v k ((needsTo x k).map I))) (fun s _ => N - (intOf s).toNat)
      case atStart => exact ⟨0, _, by omega, rfl, hB, hw1z, HP1, HO1⟩
      case round =>
        clear HP1 HO1 hB hw1z hz HP c0 hBw
        obtain ⟨k, v, hk, rfl, hB, hz, HP, HO⟩ := hrel
        obtain ⟨c0, hBw⟩ := HCP.out _ hB
        by_cases hlk : k < N
        · obtain ⟨x3, y3⟩ := HP.out.at_ 3 _ rfl
          have HPK := Lib.hid (HPO.out wr.drew v HP.out.drew hBw.drew)
          have H47K : Hid (∀ W : World, ParkAt W (w.heap.size + 1) x A c v → Calls Try.prog 47 #[.pointer (some ⟨w.heap.size + 1, 0, none⟩), I k] W fun e w' => e = .returned (I (needV x k)) ∧ Below W.heap.size W w') := Lib.hid fun W => H47.out k v W (by omega)
          have HNS : Hid ((needsTo x (k + 1)).map I = (needsTo x k).map I ++ [I (needV x k)]) := Lib.hid (by rw [needsTo_succ]; simp)
          generalize needV x k = nv at *
          have q0 : (0 : Int) ≤ (k : Int) := by omega
          clear c0
          go_wp2_with (fail)
          refine (wpIn_wide (n := 9)).1 ?_
          refine wpIn_region_plan (Plan.ons [0, 1, 2, 3, 4, 5, 6, 7, 8, 9, 10, 11, 12] .fin) [0, 1, 2, 3, 4] (fun W' => W'.cell? ⟨w.heap.size + 1, 3, none⟩ = some v) [12] rfl (by kernel_rfl) (by kernel_rfl) (fun _ d _ _ _ h => by cases d <;> exact h) (by simpa using x3) ?_
          (refine ordQ_held (.pointer (some ⟨w.heap.size + 1, 0, none⟩)) rfl rfl rfl rfl (fun W' hC' => ?_) (fun K hK => ?_); (focus (obtain _ := x3; go_simp; try exact ⟨rfl, rfl⟩)); go_simp; refine hK _ ?_; clear hK K)
          (refine ordQ_held (.pointer (some ⟨w.heap.size + 1, 0, none⟩)) rfl rfl rfl rfl (fun W' hC' => ?_) (fun K hK => ?_); (focus (obtain _ := x3; go_simp; try exact ⟨rfl, rfl⟩)); go_simp; refine hK _ ?_; clear hK K)
          (refine ordQ_held (.pointer (some ⟨w.heap.size + 1, 0, none⟩)) rfl rfl rfl rfl (fun W' hC' => ?_) (fun K hK => ?_); (focus (obtain _ := x3; go_simp; try exact ⟨rfl, rfl⟩)); go_simp; refine hK _ ?_; clear hK K)
          (refine ordQ_held (.pointer (some ⟨w.heap.size + 1, 3, none⟩)) rfl rfl rfl rfl (fun W' hC' => ?_) (fun K hK => ?_); (focus (obtain _ := x3; go_simp; try exact ⟨rfl, rfl⟩)); go_simp; refine hK _ ?_; clear hK K)
          (refine ordQ_held (v) rfl rfl rfl rfl (fun W' hC' => ?_) (fun K hK => ?_); (focus (obtain e9 := hC'; go_simp; try exact ⟨rfl, rfl⟩)); go_simp; refine hK _ ?_; clear hK K)
          iterate 2 (refine ordQ_li rfl rfl rfl (fun K hK => ?_); go_simp; refine hK _ ?_; clear hK K)
          refine ordQ_hv rfl rfl rfl (fun K hK => ?_)
          gi_wp2_with (refine And.intro trivial ?_; gi_at_call 47; refine callsIn_wide.2 ((H47K.out _ HPK.out).mono ?_); rintro e w5 ⟨rfl, hB5⟩)
          have hb5 : Below wr.heap.size wr w5 := by simpa using (Below.refl _ _).drew.trans hB5
          have HP5 := Lib.hid (HP.out.call hb5)
          have HO5 := Lib.hid (grown_own HO.out hb5)
          have hB6 : Below (w.heap.size + 1) wa w5 := hB.trans (hb5.mono (by omega))
          have hz5 := hb5.size
          obtain ⟨x5, y5⟩ := HP5.out.at_ 3 _ rfl
          refine hK _ _ (fun _ => x5) ?_
          clear hK K hB5
          refine ordQ_hv rfl rfl rfl (fun K hK => ?_)
          gi_wp2
          refine hK _ _ (fun _ => (((HP5.out.alloc _).at_ 3 _ rfl).1)) ?_
          clear hK K
          refine ordQ_hv rfl rfl rfl (fun K hK => ?_)
          refine opIn_append_own rfl _ _ _ 27 rfl (w.heap.size + 2) 3 i0 (.int .i64 0) 1 8 HU.out HI0.out HI1.out HI2.out HI3.out rfl (by decide) v k _ rfl (HO5.out.alloc (.cells #[I nv] 3)) ⟨w5.heap.size, 0, none⟩ 1 1 [I nv] rfl rfl (cell_one3 _ _ _) (by simp [Value.oneCell']) (by unfold maxLen; omega) (by omega) (by simp; omega) ?_
          intro v' w6 hown' hgrow _
          have HO6 : Hid (w6.ownsRow (w.heap.size + 2) 3 1 v' (k + 1) ((needsTo x (k + 1)).map I)) := Lib.hid (by rw [HNS.out]; exact hown')
          have HP6 : Hid (Box w6 (w.heap.size + 1) (parkC x A c v (gK x x.sp.length 0))) := Lib.hid ((HP5.out.alloc _).grown hgrow (fun e => by have := (HO5.out.lt _ e).1; omega))
          have hB7 : Below (w.heap.size + 1) wa w6 := (hB6.alloc (show w.heap.size + 1 ≤ w5.heap.size by omega) (.cells #[I nv] 3)).grown hgrow (by have := hB6.size; simp; omega) (fun g e => by have := (HO5.out.lt g e).1; omega)
          have hz6 : w.heap.size + 2 ≤ w6.heap.size := by have := hgrow.size; simp at this; omega
          obtain ⟨x6, y6⟩ := HP6.out.at_ 3 _ rfl
          obtain ⟨g, cap, hv'⟩ : ∃ g cap, v' = .slice (some ⟨g, 0, none⟩) (k + 1) cap := by
            rcases own_form HO6.out with ⟨_, h⟩ | ⟨g, cap, h, _⟩
            · exact absurd h (by omega)
            · exact ⟨g, cap, h⟩
          subst hv'
          refine hK _ _ (fun _ => x6) ?_
          clear hK K hown' hgrow
          iterate 2 (refine ordQ_li rfl rfl rfl (fun K hK => ?_); go_simp; refine hK _ ?_; clear hK K)
          refine ordQ_hv rfl rfl rfl (fun K hK => ?_)
          gi_wp2
          refine hK _ _ (fun h => by cases h) ?_
          clear hK K
          refine ordQ_fin ?_
          have HP7 : Hid (Box (w6.setCell ⟨w.heap.size + 1, 3, none⟩ (.slice (some ⟨g, 0, none⟩) (k + 1) cap)) (w.heap.size + 1) (parkC x A c (.slice (some ⟨g, 0, none⟩) (k + 1) cap) (gK x x.sp.length 0))) := Lib.hid (HP6.out.set 3 _)
          have HO7 : Hid ((w6.setCell ⟨w.heap.size + 1, 3, none⟩ (.slice (some ⟨g, 0, none⟩) (k + 1) cap)).ownsRow (w.heap.size + 2) 3 1 (.slice (some ⟨g, 0, none⟩) (k + 1) cap) (k + 1) ((needsTo x (k + 1)).map I)) := Lib.hid (own_at HO6.out fun g' e => Below.heap_setCell _ _ _ _ (by have := (HO6.out.lt g' e).1; simp; omega))
          have hB8 : Below (w.heap.size + 1) wa (w6.setCell ⟨w.heap.size + 1, 3, none⟩ (.slice (some ⟨g, 0, none⟩) (k + 1) cap)) := hB7.setCell (p := ⟨w.heap.size + 1, 3, none⟩) (Nat.le_refl _) _
          go_wp2_with (fail)
          go_roundw
          case rel => first | exact ⟨k + 1, _, by omega, by go_num, hB8, by simp; omega, HP7, HO7⟩ | ((repeat apply Exists.intro); refine ⟨?_, rfl⟩; exact ⟨k + 1, _, by omega, by go_num, hB8, by simp; omega, HP7, HO7⟩)
          case measure => first | (simp [intOf]; done) | (simp [intOf]; omega)
        · obtain rfl : k = N := by omega
          obtain ⟨B, d, hv, hIN⟩ := ints_ownN HO.out (needsTo_len x k)
          rw [needsTo_len] at hv
          subst hv
          have HPK := Lib.hid (HPO.out wr _ HP.out hBw)
          have HIN := Lib.hid hIN
          clear HP HO hIN
          go_wp2_with (fail)
          refine bodyPost_ret (v := .pointer (some ⟨w.heap.size + 1, 0, none⟩)) (by simp [results, Try.results31, go_sem]) rfl ⟨B, d, rfl, HPK.out, HIN.out, hBw⟩
end Go.Proofs.Ytfebhofihioaoaa
