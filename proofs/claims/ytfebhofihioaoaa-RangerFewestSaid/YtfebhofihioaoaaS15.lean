/- Does a crowd hold? of the document. -/
import Derived.Test.YtfebhofihioaoaaS14
namespace Go.Proofs.Ytfebhofihioaoaa
set_option linter.unusedVariables false
set_option linter.unusedSimpArgs false
open Go Go.RowKit

open Classical in
noncomputable def holdsB (x : Prk) (l m : List Int) : Bool := decide (HoldsX x (crF l) (crF m))
open Classical in
theorem holdsB_iff {x : Prk} {l m : List Int} : holdsB x l m = true ↔ HoldsX x (crF l) (crF m) := by unfold holdsB; exact decide_eq_true_iff
theorem holds_yes {x : Prk} {l m : List Int} (h : ∀ S, S < 2 ^ x.n → needC x S (crF m) ≤ forX x (crF l) S) : holdsB x l m = true := holdsB_iff.2 fun S hS => h S hS
theorem holds_no {x : Prk} {l m : List Int} {S : Nat} (hS : S < 2 ^ x.n) (h : forX x (crF l) S < needC x S (crF m)) : holdsB x l m = false := bool_false fun hb => by
  have h1 : needC x S (crF m) ≤ forX x (crF l) S := holdsB_iff.1 hb S hS
  omega
theorem needTo_all (x : Prk) (S : Nat) (c : Nat → Int) : needTo x S c x.n = needC x S c := rfl
/-- What 'Holds' answers: whether, and the kind of error. -/
noncomputable def holdsR (x : Prk) (l m : List Int) : Bool × Int := if prkB x then (if postsB x l && possB x m then (holdsB x l m, 0) else (false, 2)) else (false, 1)
set_option maxRecDepth 100000 in
set_option maxHeartbeats 4000000 in
theorem holds14_ok (x : Prk) (A B D : Option Addr) (c d f : Nat) (l m : List Int) (w : World) (hx : PrkOk x) (hA : Fours w w.heap.size A x.sp) (hl : Ints w w.heap.size B l) (hm : Ints w w.heap.size D m)
    (hpo : postsB x l = true) (hpm : possB x m = true) :
    Calls Try.prog 14 #[x.val A c, .slice B l.length d, .slice D m.length f] w fun e w' => e = .returned (.tuple #[.bool (holdsB x l m), I 0]) ∧ Below w.heap.size w w' := by
  have HX := Lib.hid hx
  have hn6 : x.sp.length ≤ 6 := hx.n6
  obtain ⟨N, hN, hNI, hN1, hN2⟩ := pow_nat hx.n6
  obtain ⟨hlx, hlb⟩ := posts_crF (postsB_iff.1 hpo)
  obtain ⟨hmx0, hmp⟩ := possB_iff.1 hpm
  have hmx : m.length = x.sp.length := hmx0
  have HLO : Hid (∀ k (h : k < x.sp.length), x.sp[k].1 = x.lo k ∧ x.sp[k].2.1 = x.hi k ∧ x.sp[k].2.2.1 = x.ho k ∧ x.sp[k].2.2.2 = x.ne k) := Lib.hid fun k h => by simp [Prk.lo, Prk.hi, Prk.ho, Prk.ne, List.getD, h]
  have H24 : Hid (∀ (S i : Nat) (W : World), S < 64 → i < 64 → Calls Try.prog 24 #[I S, I i] W fun e w' => e = .returned (.bool (S.testBit i)) ∧ W = w') := Lib.hid fun S i W h1 h2 => bit24 S i W (by omega) (by omega)
  have HA := Lib.hid hA
  have HL := Lib.hid hl
  have HM := Lib.hid hm
  have H17 : Hid (∀ W : World, Fours W W.heap.size A x.sp → Calls Try.prog 17 #[.agg #[.slice A x.sp.length c, I x.alo, I x.ahi]] W fun e w' => e = .returned (.bool true) ∧ Below W.heap.size W w') := Lib.hid fun W h => by
    have := park17 x A c W h (by omega)
    rwa [prkB_iff.2 hx] at this
  have H21 : Hid (∀ W : World, Ints W W.heap.size B l → Calls Try.prog 21 #[.agg #[.slice A x.sp.length c, I x.alo, I x.ahi], .slice B l.length d] W fun e w' => e = .returned (.bool true) ∧ Below W.heap.size W w') := Lib.hid fun W h => by
    have := posts21 x A B c d l W h (by have : l.length = x.sp.length := hlx; omega) (by omega)
    rwa [hpo] at this
  have H27 : Hid (∀ W : World, Fours W W.heap.size A x.sp → Ints W W.heap.size D m → Calls Try.prog 27 #[.agg #[.slice A x.sp.length c, I x.alo, I x.ahi], .slice D m.length f] W fun e w' => e = .returned (.bool true) ∧ Below W.heap.size W w') := Lib.hid fun W h h' => by
    have := possible27 x A D c f m W hx h h' (by omega)
    rwa [hpm] at this
  have H33 : Hid (∀ W : World, Calls Try.prog 33 #[.agg #[.slice A x.sp.length c, I x.alo, I x.ahi]] W fun e w' => e = .returned (I N) ∧ Below W.heap.size W w') := Lib.hid fun W => by
    have := sets33 x A c W (by omega)
    rwa [show (2 : Int) ^ x.sp.length = (N : Int) from hNI] at this
  have H26 : Hid (∀ (k : Nat) (W : World), k < 64 → Fours W W.heap.size A x.sp → Ints W W.heap.size B l → Calls Try.prog 26 #[.agg #[.slice A x.sp.length c, I x.alo, I x.ahi], .slice B l.length d, I k] W fun e w' => e = .returned (I (forX x (crF l) k)) ∧ Below W.heap.size W w') := Lib.hid fun k W hk h1 h2 => for26 x A B c d l k W hx h1 h2 hlx hlb hk
  have HYES : Hid ((∀ S, S < N → needTo x S (crF m) m.length ≤ forX x (crF l) S) → holdsB x l m = true) := Lib.hid fun h => holds_yes fun S hS => by
    have := h S (by rw [hN]; exact hS)
    rwa [hmx] at this
  have HNO : Hid (∀ S, S < N → forX x (crF l) S < needTo x S (crF m) m.length → holdsB x l m = false) := Lib.hid fun S hS h => holds_no (S := S) (by rw [hN] at hS; exact hS) (by rwa [hmx] at h)
  have HBD : Hid (∀ S k, k ≤ m.length → 0 ≤ needTo x S (crF m) k ∧ needTo x S (crF m) k ≤ 6291456) := Lib.hid fun S k hk => by
    have hk' : k ≤ x.n := by show k ≤ x.sp.length; omega
    have h1 := needTo_bd hx S hmp.1 k hk'
    have h2 := (sum_crowd hx hk' fun j hj => hmp.1 j (Nat.lt_of_lt_of_le hj hk')).2
    omega
  have HCC : Hid (∀ i, i < x.sp.length → x.lo i ≤ crF m i ∧ crF m i ≤ x.hi i) := Lib.hid hmp.1
  have HNS : Hid (∀ S k, needTo x S (crF m) (k + 1) = needTo x S (crF m) k + if S.testBit k then need1 (x.ho k) (crF m k) else 0) := Lib.hid fun S k => rfl
  have HCR : Hid (∀ k (h : k < m.length), m[k] = crF m k) := Lib.hid fun k h => by simp [List.getD, h]
  have HFB : Hid (∀ S, 0 ≤ forX x (crF l) S ∧ forX x (crF l) S ≤ 72) := Lib.hid (forX_bd hx hlb)
  have HMX := Lib.hid hmx
  have hm6 : m.length ≤ 6 := by omega
  clear hA hx hl hm hpo hpm hlb hmp hmx0 hlx hN hNI hmx
  simp only [Prk.val]
  generalize forX x (crF l) = fo at *
  generalize holdsB x l m = hb at *
  generalize x.alo = al at *
  generalize x.ahi = ah at *
  have HW : Hid (Below w.heap.size w (w.alloc (.cells #[.slice A x.sp.length c, I al, I ah] 26))) := Lib.hid (below1 _ _)
  have HCP : Hid (∀ W, Below (w.heap.size + 1) (w.alloc (.cells #[.slice A x.sp.length c, I al, I ah] 26)) W → W.cell? ⟨w.heap.size, 0, none⟩ = some (.slice A x.sp.length c) ∧ W.cell? ⟨w.heap.size, 1, none⟩ = some (I al) ∧ W.cell? ⟨w.heap.size, 2, none⟩ = some (I ah) ∧ Below w.heap.size w W) := Lib.hid fun W hW =>
    ⟨(hW.cell (p := ⟨_, _, none⟩) (by simp)).trans (by simp [go_sem]), (hW.cell (p := ⟨_, _, none⟩) (by simp)).trans (by simp [go_sem]), (hW.cell (p := ⟨_, _, none⟩) (by simp)).trans (by simp [go_sem]), (below1 w _).trans (hW.mono (by omega))⟩
  have HFI : Hid (∀ W, Below w.heap.size w W → Fours W W.heap.size A x.sp ∧ Ints W W.heap.size B l ∧ Ints W W.heap.size D m) := Lib.hid fun W hW => ⟨(HA.out.below hW).more hW.size, (HL.out.below hW).more hW.size, (HM.out.below hW).more hW.size⟩
  have hsz : (w.alloc (.cells #[.slice A x.sp.length c, I al, I ah] 26)).heap.size = w.heap.size + 1 := by simp
  go_enter Try.func14, Try.ntmps14
  go_wp2_with (first
    | (go_at_call 17; refine (H17.out _ (HFI.out _ HW.out).1).mono ?_; rintro e w1 ⟨rfl, hB1⟩; obtain ⟨q0, q1, q2, hBw1⟩ := HCP.out w1 (hB1.mono (by omega)))
    | (go_at_call 21; refine (H21.out _ (HFI.out _ hBw1).2.1).mono ?_; rintro e w2 ⟨rfl, hB2⟩; obtain ⟨s0, s1, s2, hBw2⟩ := HCP.out w2 ((hB1.mono (by omega)).trans (hB2.mono (by have := hB1.size; omega))))
    | (go_at_call 27; refine (H27.out _ (HFI.out _ hBw2).1 (HFI.out _ hBw2).2.2).mono ?_; rintro e w3 ⟨rfl, hB3⟩)
    | fail)
  have HBz : Hid (Below (w.heap.size + 1) (w.alloc (.cells #[.slice A x.sp.length c, I al, I ah] 26)) w3) := Lib.hid ((hB1.mono (by omega)).trans ((hB2.mono (by have := hB1.size; omega)).trans (hB3.mono (by have := hB1.size; have := hB2.size; omega))))
  generalize hwz0 : w.alloc (.cells #[.slice A x.sp.length c, I al, I ah] 26) = wa at *
  clear hwz0 hB1 hB2 hB3 q0 q1 q2 s0 s1 s2 hBw1 hBw2
  go_loopw [8] (fun s8 wr => ∃ S : Nat, S ≤ N ∧ s8 = I S ∧ Below (w.heap.size + 1) wa wr ∧ Hid (∀ T, T < S → needTo x T (crF m) m.length ≤ fo T)) (fun s _ => N - (intOf s).toNat)
  case atStart => exact ⟨0, by omega, rfl, HBz.out, Lib.hid fun T h => by omega⟩
  case round =>
    obtain ⟨S, hS, rfl, hB, HT⟩ := hrel
    have hzr := hB.size
    obtain ⟨c0, c1, c2, hBw⟩ := HCP.out _ hB
    generalize wr = wo at *
    by_cases hlt : S < N
    · go_wp2_with (first
        | (go_at_call 33; refine (H33.out _).mono ?_; rintro e w4 ⟨rfl, hB4⟩)
        | fail)
      have HBw4 : Hid (Below (w.heap.size + 1) wa w4) := Lib.hid (hB.trans (hB4.mono (by omega)))
      clear c0 c1 c2 hBw hB4
      go_loopw [9, 10] (fun s9 s10 wr => ∃ k : Nat, k ≤ m.length ∧ s10 = I k ∧ s9 = I (needTo x S (crF m) k) ∧ Below w4.heap.size w4 wr) (fun _ s _ => m.length - (intOf s).toNat)
      case atStart => exact ⟨0, by omega, rfl, rfl, Below.refl _ _⟩
      case round =>
        obtain ⟨k, hk, rfl, rfl, hBi⟩ := hrel
        have hzi := hBi.size
        have hz4 := HBw4.out.size
        obtain ⟨c0, c1, c2, hBw⟩ := HCP.out _ (HBw4.out.trans (hBi.mono (by omega)))
        have hsb := HBD.out S k hk
        by_cases hlk : k < m.length
        · have hkx : k < x.sp.length := by have := HMX.out; omega
          obtain ⟨lb, lo', hLe, hlz, hlc⟩ := (HM.out.below hBw) (by omega)
          subst hLe
          obtain ⟨ab, ao, hAe, haz, hac⟩ := (HA.out.below hBw) (by omega)
          subst hAe
          have l0 := hlc k hlk
          obtain ⟨a0, a1, a2, a3⟩ := hac k hkx
          obtain ⟨e0, e1, e2, e3⟩ := HLO.out k hkx
          rw [e0] at a0
          rw [e1] at a1
          rw [e2] at a2
          rw [e3] at a3
          rw [HCR.out k hlk] at l0
          have HNK := Lib.hid (HNS.out S k)
          obtain ⟨ho1, ho2⟩ := HX.out.hold k hkx
          have hpk := HX.out.peo k hkx
          have hck := HCC.out k hkx
          have hnb := need1_bd (h := x.ho k) (p := crF m k) ho1 (by omega)
          have H25 : Hid (∀ W : World, Calls Try.prog 25 #[.agg #[I (x.lo k), I (x.hi k), I (x.ho k), I (x.ne k)], I (crF m k)] W fun e w' => e = .returned (I (need1 (x.ho k) (crF m k))) ∧ Below W.heap.size W w') := Lib.hid fun W => of25 _ _ _ _ _ W ho1 ho2 (by omega) (by omega)
          have HBK : Hid (∀ W : World, Calls Try.prog 24 #[I S, I k] W fun e w' => e = .returned (.bool (S.testBit k)) ∧ W = w') := Lib.hid fun W => H24.out S k W (by omega) (by omega)
          generalize needTo x S (crF m) k = s at *
          generalize need1 (x.ho k) (crF m k) = nn at *
          generalize crF m k = v at *
          generalize x.lo k = lo at *
          generalize x.hi k = hi at *
          generalize x.ho k = ho at *
          generalize x.ne k = ne at *
          obtain ⟨b, hb'⟩ : ∃ b, S.testBit k = b := ⟨_, rfl⟩
          rw [hb'] at HNK HBK
          have p0 : (0 : Int) ≤ (k : Int) := by omega
          have p1 : (k : Int) < (m.length : Int) := by omega
          have p2 : (k : Int) < (x.sp.length : Int) := by omega
          have hwr : IntKind.i64.wrap (s + nn) = s + nn := IntWalk.i64_in _ (by omega)
          clear hb' hlc hac e0 e1 e2 e3
          have HCX : Hid (∀ W, Below wr.heap.size wr W → W.cell? ⟨w.heap.size, 0, none⟩ = some (.slice (some ⟨ab, ao, none⟩) x.sp.length c) ∧ W.cell? ⟨ab, ao + k * 4, none⟩ = some (I lo) ∧ W.cell? ⟨ab, ao + k * 4 + 1, none⟩ = some (I hi) ∧ W.cell? ⟨ab, ao + k * 4 + 2, none⟩ = some (I ho) ∧ W.cell? ⟨ab, ao + k * 4 + 3, none⟩ = some (I ne) ∧ W.cell? ⟨lb, lo' + k, none⟩ = some (I v)) := Lib.hid fun W hW =>
            have hab : ab < wr.heap.size := by have := hBw.size; omega
            have hlb : lb < wr.heap.size := by have := hBw.size; omega
            ⟨(hW.cell (p := ⟨w.heap.size, 0, none⟩) (show w.heap.size < _ by omega)).trans c0, (hW.cell (p := ⟨ab, ao + k * 4, none⟩) hab).trans a0, (hW.cell (p := ⟨ab, ao + k * 4 + 1, none⟩) hab).trans a1, (hW.cell (p := ⟨ab, ao + k * 4 + 2, none⟩) hab).trans a2, (hW.cell (p := ⟨ab, ao + k * 4 + 3, none⟩) hab).trans a3, (hW.cell (p := ⟨lb, lo' + k, none⟩) hlb).trans l0⟩
          cases b
          · go_wp2_with (first
              | (go_at_call 24; refine (HBK.out _).mono ?_; rintro e w5 ⟨rfl, rfl⟩)
              | fail)
            go_roundw
            case rel => exact ⟨k + 1, by omega, by go_num, by rw [HNK.out]; simp, hBi⟩
            case measure => first | (simp [intOf]; done) | (simp [intOf]; omega)
          · go_wp2_with (first
              | (go_at_call 24; refine (HBK.out _).mono ?_; rintro e w5 ⟨rfl, rfl⟩)
              | fail)
            refine (wpIn_wide (n := 9)).1 ?_
            refine wpIn_region_plan (Plan.ons [0, 1, 2, 3, 4, 5, 6, 7, 8, 9, 10, 11, 12] .fin) [0] (fun W' => Below wr.heap.size wr W') [] rfl (by kernel_rfl) (by kernel_rfl) (fun _ d _ _ _ h => by cases d <;> exact h) (Below.refl _ _).drew ?_
            (refine ordQ_held (I s) rfl rfl rfl rfl (fun W' hC' => ?_) (fun K hK => ?_); (focus (obtain _ := hC'; go_simp; try exact ⟨rfl, rfl⟩)); go_simp; refine hK _ ?_; clear hK K)
            obtain ⟨n0, n1, n2, n3, n4, n5⟩ := HCX.out wr (Below.refl _ _)
            iterate 9 (refine ordQ_li rfl rfl rfl (fun K hK => ?_); go_simp; refine hK _ ?_; clear hK K)
            refine ordQ_hv rfl rfl rfl (fun K hK => ?_)
            gi_wp2_with (refine And.intro trivial ?_; gi_at_call 25; refine callsIn_wide.2 ((H25.out _).mono ?_); rintro e w5 ⟨rfl, hB5⟩)
            have hb5 : Below wr.heap.size wr w5 := by simpa using (Below.refl _ _).drew.trans hB5
            refine hK _ _ (fun _ => hb5) ?_
            clear hK K hB5
            iterate 2 (refine ordQ_li rfl rfl rfl (fun K hK => ?_); go_simp; refine hK _ ?_; clear hK K)
            refine ordQ_fin ?_
            have hB2 := hBi.trans (hb5.mono (by omega))
            go_wp2_with (fail)
            go_roundw
            case rel => first | exact ⟨k + 1, by omega, by go_num, by rw [HNK.out]; simp, hB2⟩ | ((repeat apply Exists.intro); refine ⟨?_, rfl⟩; exact ⟨k + 1, by omega, by go_num, by rw [HNK.out]; simp, hB2⟩)
            case measure => first | (simp [intOf]; done) | (simp [intOf]; omega)
        · obtain rfl : m.length = k := by omega
          have HNK := Lib.hid (HNO.out S hlt)
          have hfb := HFB.out S
          have HTS : Hid (needTo x S (crF m) m.length ≤ fo S → ∀ T, T < S + 1 → needTo x T (crF m) m.length ≤ fo T) := Lib.hid fun e T hT => by
            rcases Nat.lt_succ_iff_lt_or_eq.1 hT with h1 | rfl
            · exact HT.out T h1
            · exact e
          have H26S : Hid (∀ W : World, Fours W W.heap.size A x.sp → Ints W W.heap.size B l → Calls Try.prog 26 #[.agg #[.slice A x.sp.length c, I al, I ah], .slice B l.length d, I S] W fun e w' => e = .returned (I (fo S)) ∧ Below W.heap.size W w') := Lib.hid fun W => H26.out S W (by omega)
          generalize needTo x S (crF m) m.length = s at *
          generalize hfs : fo S = fs at *
          clear hfs
          by_cases hgt : fs < s
          · have HF := Lib.hid (HNK.out hgt)
            clear HNK HTS
            go_wp2_with (first
              | (go_at_call 26; refine (H26S.out _ (HFI.out _ hBw).1 (HFI.out _ hBw).2.1).mono ?_; rintro e w6 ⟨rfl, hB6⟩)
              | fail)
            refine bodyPost_ret (v := .tuple #[.bool false, I 0]) (by simp [results, Try.results14, go_sem]) rfl ⟨by rw [HF.out], hBw.trans (hB6.mono hBw.size)⟩
          · have HTT := Lib.hid (HTS.out (by omega))
            clear HNK HTS
            go_wp2_with (first
              | (go_at_call 26; refine (H26S.out _ (HFI.out _ hBw).1 (HFI.out _ hBw).2.1).mono ?_; rintro e w6 ⟨rfl, hB6⟩)
              | fail)
            have hB2 : Below (w.heap.size + 1) wa w6 := (HBw4.out.trans (hBi.mono (by omega))).trans (hB6.mono (by omega))
            go_roundw
            case rel => exact ⟨S + 1, by omega, by go_num, hB2, HTT⟩
            case measure => first | (simp [intOf]; done) | (simp [intOf]; omega)
    · obtain rfl : S = N := by omega
      have HF := Lib.hid (HYES.out HT.out)
      go_wp2_with (first
        | (go_at_call 33; refine (H33.out _).mono ?_; rintro e w4 ⟨rfl, hB4⟩)
        | fail)
      refine bodyPost_ret (v := .tuple #[.bool true, I 0]) (by simp [results, Try.results14, go_sem]) rfl ⟨by rw [HF.out], hBw.trans (hB4.mono hBw.size)⟩
set_option maxRecDepth 100000 in
set_option maxHeartbeats 4000000 in
theorem holds14 (x : Prk) (A B D : Option Addr) (c d f : Nat) (l m : List Int) (w : World) (hA : Fours w w.heap.size A x.sp) (hl : Ints w w.heap.size B l) (hm : Ints w w.heap.size D m)
    (hxl : x.sp.length ≤ 9223372036854775807) (hll : l.length ≤ 9223372036854775807) (hml : m.length ≤ 9223372036854775807) :
    Calls Try.prog 14 #[x.val A c, .slice B l.length d, .slice D m.length f] w fun e w' => e = .returned (.tuple #[.bool (holdsR x l m).1, I (holdsR x l m).2]) ∧ Below w.heap.size w w' := by
  have HA := Lib.hid hA
  have HL := Lib.hid hl
  have HM := Lib.hid hm
  have H17 : Hid (∀ W : World, Fours W W.heap.size A x.sp → Calls Try.prog 17 #[.agg #[.slice A x.sp.length c, I x.alo, I x.ahi]] W fun e w' => e = .returned (.bool (prkB x)) ∧ Below W.heap.size W w') := Lib.hid fun W h => park17 x A c W h hxl
  have H21 : Hid (∀ W : World, Ints W W.heap.size B l → Calls Try.prog 21 #[.agg #[.slice A x.sp.length c, I x.alo, I x.ahi], .slice B l.length d] W fun e w' => e = .returned (.bool (postsB x l)) ∧ Below W.heap.size W w') := Lib.hid fun W h => posts21 x A B c d l W h hll hxl
  have H27 : Hid (prkB x = true → ∀ W : World, Fours W W.heap.size A x.sp → Ints W W.heap.size D m → Calls Try.prog 27 #[.agg #[.slice A x.sp.length c, I x.alo, I x.ahi], .slice D m.length f] W fun e w' => e = .returned (.bool (possB x m)) ∧ Below W.heap.size W w') := Lib.hid fun hb W h h' => possible27 x A D c f m W (prkB_iff.1 hb) h h' hml
  by_cases hall : prkB x = true ∧ postsB x l = true ∧ possB x m = true
  · obtain ⟨h1, h2, h3⟩ := hall
    have hr : holdsR x l m = (holdsB x l m, 0) := by unfold holdsR; rw [h1, h2, h3]; rfl
    rw [hr]
    exact holds14_ok x A B D c d f l m w (prkB_iff.1 h1) hA hl hm h2 h3
  have HR : Hid (holdsR x l m = if prkB x then (false, 2) else (false, 1)) := Lib.hid (by
    unfold holdsR
    cases h1 : prkB x
    · rfl
    · cases h2 : postsB x l
      · rfl
      · cases h3 : possB x m
        · rfl
        · exact absurd ⟨h1, h2, h3⟩ hall)
  clear hA hl hm hxl hll hml
  simp only [Prk.val]
  generalize prkB x = b1 at *
  generalize postsB x l = b2 at *
  generalize possB x m = b3 at *
  generalize holdsR x l m = r at *
  generalize x.alo = al at *
  generalize x.ahi = ah at *
  have HW : Hid (Below w.heap.size w (w.alloc (.cells #[.slice A x.sp.length c, I al, I ah] 26))) := Lib.hid (below1 _ _)
  have HCP : Hid (∀ W, Below (w.heap.size + 1) (w.alloc (.cells #[.slice A x.sp.length c, I al, I ah] 26)) W → W.cell? ⟨w.heap.size, 0, none⟩ = some (.slice A x.sp.length c) ∧ W.cell? ⟨w.heap.size, 1, none⟩ = some (I al) ∧ W.cell? ⟨w.heap.size, 2, none⟩ = some (I ah) ∧ Below w.heap.size w W) := Lib.hid fun W hW =>
    ⟨(hW.cell (p := ⟨_, _, none⟩) (by simp)).trans (by simp [go_sem]), (hW.cell (p := ⟨_, _, none⟩) (by simp)).trans (by simp [go_sem]), (hW.cell (p := ⟨_, _, none⟩) (by simp)).trans (by simp [go_sem]), (below1 w _).trans (hW.mono (by omega))⟩
  have HFI : Hid (∀ W, Below w.heap.size w W → Fours W W.heap.size A x.sp ∧ Ints W W.heap.size B l ∧ Ints W W.heap.size D m) := Lib.hid fun W hW => ⟨(HA.out.below hW).more hW.size, (HL.out.below hW).more hW.size, (HM.out.below hW).more hW.size⟩
  have hsz : (w.alloc (.cells #[.slice A x.sp.length c, I al, I ah] 26)).heap.size = w.heap.size + 1 := by simp
  cases b1
  · have HR1 : Hid (r = (false, 1)) := Lib.hid (by rw [HR.out]; rfl)
    clear HR H27 hall
    go_enter Try.func14, Try.ntmps14
    go_wp2_with (first
      | (go_at_call 17; refine (H17.out _ (HFI.out _ HW.out).1).mono ?_; rintro e w1 ⟨rfl, hB1⟩)
      | fail)
    refine bodyPost_ret (v := .tuple #[.bool false, I 1]) (by simp [results, Try.results14, go_sem]) rfl ⟨by rw [HR1.out], HW.out.trans (hB1.mono (by omega))⟩
  · have HR1 : Hid (r = (false, 2)) := Lib.hid (by rw [HR.out]; rfl)
    have H27' := Lib.hid (H27.out rfl)
    clear HR H27
    cases b2
    · clear hall
      go_enter Try.func14, Try.ntmps14
      go_wp2_with (first
        | (go_at_call 17; refine (H17.out _ (HFI.out _ HW.out).1).mono ?_; rintro e w1 ⟨rfl, hB1⟩; obtain ⟨q0, q1, q2, hBw1⟩ := HCP.out w1 (hB1.mono (by omega)))
        | (go_at_call 21; refine (H21.out _ (HFI.out _ hBw1).2.1).mono ?_; rintro e w2 ⟨rfl, hB2⟩)
        | fail)
      refine bodyPost_ret (v := .tuple #[.bool false, I 2]) (by simp [results, Try.results14, go_sem]) rfl ⟨by rw [HR1.out], hBw1.trans (hB2.mono hBw1.size)⟩
    · cases b3
      · clear hall
        go_enter Try.func14, Try.ntmps14
        go_wp2_with (first
          | (go_at_call 17; refine (H17.out _ (HFI.out _ HW.out).1).mono ?_; rintro e w1 ⟨rfl, hB1⟩; obtain ⟨q0, q1, q2, hBw1⟩ := HCP.out w1 (hB1.mono (by omega)))
          | (go_at_call 21; refine (H21.out _ (HFI.out _ hBw1).2.1).mono ?_; rintro e w2 ⟨rfl, hB2⟩; obtain ⟨s0, s1, s2, hBw2⟩ := HCP.out w2 ((hB1.mono (by omega)).trans (hB2.mono (by have := hB1.size; omega))))
          | (go_at_call 27; refine (H27'.out _ (HFI.out _ hBw2).1 (HFI.out _ hBw2).2.2).mono ?_; rintro e w3 ⟨rfl, hB3⟩)
          | fail)
        refine bodyPost_ret (v := .tuple #[.bool false, I 2]) (by simp [results, Try.results14, go_sem]) rfl ⟨by rw [HR1.out], hBw2.trans (hB3.mono hBw2.size)⟩
      · exact absurd ⟨rfl, rfl, rfl⟩ hall
end Go.Proofs.Ytfebhofihioaoaa
