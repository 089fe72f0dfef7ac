/- Lacking, of the program. -/
import Derived.Test.YtijgfdncocjncaaS15
import Derived.WalkSmall
namespace Go.Proofs.Ytijgfdncocjncaa
set_option linter.unusedVariables false
set_option linter.unusedSimpArgs false
open Go Go.RowKit

theorem lckTo_64 {x : Wat} (hx : WatOk x) : (List.range 64).filter (lackA x x.n) = lckTo x x.m := by
  have hm := hx.m64
  unfold lckTo
  have e : 64 = x.m + (64 - x.m) := by omega
  rw [e, List.range_add, List.filter_append]
  have h2 : (List.map (x.m + ·) (List.range (64 - x.m))).filter (lackA x x.n) = [] := by
    rw [List.filter_eq_nil_iff]
    intro i hi
    obtain ⟨j, _, rfl⟩ := List.mem_map.1 hi
    rw [lackA_all hx]
    have : ¬ x.m + j < x.m := by omega
    simp [this]
  rw [h2, List.append_nil]
  refine List.filter_congr fun i hi => ?_
  rw [lackA_all hx]
  simp [List.mem_range.1 hi]
def lckK (x : Wat) (i : Nat) : List Int := ((List.range i).filter (lackA x x.n)).map fun i : Nat => (i : Int)
theorem lckK_succ (x : Wat) (i : Nat) : lckK x (i + 1) = lckK x i ++ if lackA x x.n i then [(i : Int)] else [] := by
  unfold lckK
  rw [List.range_succ, List.filter_append, List.map_append]
  cases h : lackA x x.n i <;> simp [h]
theorem lckK_len (x : Wat) (i : Nat) : (lckK x i).length ≤ i := by
  unfold lckK
  rw [List.length_map]
  have := List.length_filter_le (lackA x x.n) (List.range i)
  simpa using this
theorem lackA_set (x : Wat) (k : Nat) : setN (lackA x (k + 1)) = setN (lackA x k) ||| setN (lackP x k) := by
  rw [setN_or]
  exact setN_congr fun i _ => lackA_succ x k i
theorem lackA_zero (x : Wat) : setN (lackA x 0) = 0 := by
  rw [setN_zero]
  intro i _
  rfl
theorem and_bit (n i : Nat) (h : n < 18446744073709551616) : Go.bits BinOp.and IntKind.u64 ((n : Int) / 2 ^ i) 1 = if n.testBit i then 1 else 0 := by
  have e : ((n : Int) / 2 ^ i) = ((n / 2 ^ i : Nat) : Int) := by push_cast; rfl
  have h2 : n / 2 ^ i ≤ n := Nat.div_le_self _ _
  rw [e, Nat.testBit_eq_decide_div_mod_eq]
  generalize n / 2 ^ i = q at *
  rw [and_one_u64 _ (by omega) (by omega)]
  by_cases h3 : q % 2 = 1
  · simp [h3]; omega
  · simp [h3]; omega
set_option maxRecDepth 100000 in
set_option maxHeartbeats 4000000 in
theorem lacking12 (x : Wat) (A B : Option Addr) (c d : Nat) (w : World) (h64 : Wat64 x) (hW : WatAt w x A B) :
    Calls Try.prog 12 #[x.val A c B d] w fun e w' => ∃ A' c', e = .returned (.tuple #[.slice A' (lckR x).1.length c', I (lckR x).2]) ∧ Ints w' w'.heap.size A' (lckR x).1 ∧ Below w.heap.size w w' := by
  have H28 := Lib.hid fun (W : World) (hB : Below w.heap.size w W) => isWatch28 x A B c d W (hW.below hB) h64
  have hlen := h64.hlen
  have HB0 : Hid (Below w.heap.size w (w.alloc (.cells #[.slice A x.hb.length c, .slice B x.er.length d, I x.en] 25))) := Lib.hid (by (repeat' (first | assumption | exact Below.refl _ _ | refine Below.drew ?_ | refine below_drewN ?_ _ | refine Below.setCell ?_ (by first | omega | (simp; done) | (simp; omega)) _ | refine Below.alloc ?_ (by first | omega | (simp; done) | (simp; omega)) _ | refine Below.trans ?_ (Below.mono (by assumption) (by first | omega | (simp; done) | (simp; omega))))))
  have HBa : Hid (Box (w.alloc (.cells #[.slice A x.hb.length c, .slice B x.er.length d, I x.en] 25)) w.heap.size [.slice A x.hb.length c, .slice B x.er.length d, I x.en]) := Lib.hid (Box.new w [.slice A x.hb.length c, .slice B x.er.length d, I x.en] 25)
  have HZ0 : Hid (w.heap.size + 1 = (w.alloc (.cells #[.slice A x.hb.length c, .slice B x.er.length d, I x.en] 25)).heap.size) := Lib.hid (by simp)
  cases hwb : watB x
  · have HR : Hid (lckR x = ([], 1)) := Lib.hid (by unfold lckR; rw [hwb]; rfl)
    rw [hwb] at H28
    unfold Wat.val at H28 ⊢
    go_enter Try.func12, Try.ntmps12
    go_wp2_with (first | (go_at_call 28; refine (H28.out _ HB0.out).mono ?_; rintro e w1 ⟨rfl, hB1⟩) | fail)
    refine bodyPost_ret (v := .tuple #[.slice none 0 0, I 1]) (by simp [results, Try.results12, go_sem]) rfl ⟨none, 0, by rw [HR.out]; rfl, by rw [HR.out]; exact fun h => absurd h (by simp), HB0.out.trans (hB1.mono (by simp))⟩
  · have hx := watB_iff.1 hwb
    have HX := Lib.hid hx
    have hn6 : x.hb.length ≤ 6 := hx.n6
    have HR : Hid (lckR x = (lckK x 64, 0)) := Lib.hid (by unfold lckR lckK; rw [hwb, lckTo_64 hx]; rfl)
    have H30 : Hid (∀ W, Below w.heap.size w W → Calls Try.prog 30 #[x.val A c B d] W fun e w' => ∃ (D : Option Addr) (cs : Nat), e = .returned (.pointer (some ⟨W.heap.size + 1, 0, none⟩)) ∧ Run w' (W.heap.size + 1) x A B c d D cs ∧ Below W.heap.size W w') := Lib.hid fun W h => newWatch30 x A B c d W hx (hW.below h)
    have H33 : Hid (∀ (P k : Nat) (D : Option Addr) (cs : Nat) (W : World), k < x.hb.length → Run W P x A B c d D cs → Calls Try.prog 33 #[.pointer (some ⟨P, 0, none⟩), I k] W fun e w' => e = .returned (U64 (setN (lackP x k))) ∧ Below W.heap.size W w') := Lib.hid fun P k D cs W h1 hR => lacking33 x P k A B c d D cs W hx hR h1
    have H34 := Lib.hid ones34
    rw [hwb] at H28
    clear hx hW h64
    unfold Wat.val at H28 H30 ⊢
    go_enter Try.func12, Try.ntmps12
    go_wp2_with (first
      | (go_at_call 28; generalize (w.alloc (.cells #[.slice A x.hb.length c, .slice B x.er.length d, I x.en] 25)) = wa at *; refine (H28.out _ HB0.out).mono ?_; rintro e w1 ⟨rfl, hB1⟩; have HBa1 := HBa.out.call hB1; obtain ⟨k0, _⟩ := HBa1.at_ 0 _ rfl; obtain ⟨k1, _⟩ := HBa1.at_ 1 _ rfl; obtain ⟨k2, _⟩ := HBa1.at_ 2 _ rfl; have HB1 : Hid (Below w.heap.size w w1) := Lib.hid (HB0.out.trans (hB1.mono (by have := HZ0.out; omega))))
      | (go_at_call 30; refine (H30.out _ HB1.out).mono ?_; rintro e w2 ⟨D, cs, rfl, hR, hB2⟩; have HRR := Lib.hid hR; have sp0 := hR.sp0)
      | fail)
    have HB2 : Hid (Below w.heap.size w w2) := Lib.hid (HB1.out.trans (hB2.mono (by have := HB1.out.size; omega)))
    have hz1 := HB1.out.size
    have hz2 := hB2.size
    clear k0 k1 k2 hB1 hB2 hR sp0 HBa1 H30 H28
    obtain ⟨P, hP⟩ : ∃ P, w1.heap.size + 1 = P := ⟨_, rfl⟩
    rw [hP] at HRR ⊢
    have hPz := HRR.out.lt
    have HLZ := Lib.hid (lackA_zero x)
    have HLS := Lib.hid (lackA_set x)
    have HLL := Lib.hid fun k => setN_lt (lackA x k)
    have HPL := Lib.hid fun k => setN_lt (lackP x k)
    clear hP
    go_loopw [5, 19] (fun s5 s19 wr => ∃ k : Nat, k ≤ x.hb.length ∧ s19 = I k ∧ s5 = U64 (setN (lackA x k)) ∧ Below w2.heap.size w2 wr) (fun _ s _ => x.hb.length - (intOf s).toNat)
    case atStart => exact ⟨0, by omega, rfl, by rw [HLZ.out]; rfl, Below.refl _ _⟩
    case round =>
      obtain ⟨k, hk, rfl, rfl, hB⟩ := hrel
      have hzr := hB.size
      by_cases hlt : k < x.hb.length
      · have H33k := Lib.hid (H33.out P k D cs wr hlt (HRR.out.call hB))
        have p0 : (0 : Int) ≤ (k : Int) := by omega
        have p1 : (k : Int) < (x.hb.length : Int) := by omega
        have hl1 := HLL.out k
        have hl2 := HPL.out k
        have hl3 := HLL.out (k + 1)
        have HSk := Lib.hid (HLS.out k)
        have hor := orU _ _ hl1 hl2
        rw [← HSk.out] at hor
        have hwu := wrapU _ hl3
        obtain ⟨s1, hs1⟩ : ∃ s, setN (lackA x (k + 1)) = s := ⟨_, rfl⟩
        rw [hs1] at hor hwu
        have HS1 := Lib.hid hs1
        clear hs1
        generalize setN (lackA x k) = sk at *
        generalize setN (lackP x k) = sp at *
        go_wp2_with (first | (go_at_call 33; refine H33k.out.mono ?_; rintro e w3 ⟨rfl, hB3⟩) | fail)
        go_roundw
        case rel => first | exact ⟨k + 1, by omega, by go_num, by rw [HS1.out], hB.trans (hB3.mono hzr)⟩ | ((repeat apply Exists.intro); refine ⟨?_, rfl⟩; exact ⟨k + 1, by omega, by go_num, by rw [HS1.out], hB.trans (hB3.mono hzr)⟩)
        case measure => first | (simp [intOf]; done) | (simp [intOf]; omega)
      · have HKK : Hid (k = x.hb.length) := Lib.hid (by omega)
        have hla := HLL.out k
        have hbt := setN_bit (lackA x k)
        obtain ⟨sa, hsa⟩ : ∃ sa, setN (lackA x k) = sa := ⟨_, rfl⟩
        rw [hsa] at hla hbt ⊢
        rw [show lackA x k = lackA x x.n by rw [HKK.out]; rfl] at hbt
        have HBT := Lib.hid hbt
        obtain ⟨i0, hi0, hi1, hi2, hi3⟩ := info_parts info3
        clear hsa hbt
        go_wp2_with (first
          | (go_at_call 34; refine (H34.out _ hla _).mono ?_; rintro e w4 ⟨⟨cn, hcn, rfl⟩, rfl⟩)
          | (refine wpList_make_own _ rfl (.const (.int .i64 0)) (.tmp 29) 33 rfl wr.heap.size 3 i0 (.int .i64 0) 1 Try.underlying33 hi0 hi1 hi2 .i64 .i64 cn cn rfl rfl rfl (by rw [hi3]; omega) (by unfold maxLen; omega) (by omega) ?_; intro w5 hown5 hg5)
          | fail)
        have HB5 : Hid (Below w2.heap.size w2 w5) := Lib.hid (hB.grown hg5 (by omega) (fun k e => by cases e))
        have HO5 := Lib.hid hown5
        have hz5 := hg5.size
        obtain ⟨zb, hzb⟩ : ∃ z, wr.heap.size = z := ⟨_, rfl⟩
        rw [hzb] at HO5 hz5 hzr ⊢
        clear hown5 hg5 H33 H34 HLZ HLS HLL HPL hB hzb
        go_loopw [7, 31] (fun s7 s31 wi => ∃ i : Nat, i ≤ 64 ∧ s31 = I i ∧ Below w2.heap.size w2 wi ∧ zb ≤ wi.heap.size ∧ Hid (wi.ownsRow zb 3 1 s7 (lckK x i).length ((lckK x i).map I))) (fun _ s _ => 64 - (intOf s).toNat)
        case atStart => exact ⟨0, by omega, rfl, HB5.out, by omega, HO5⟩
        case round =>
          clear HO5 HB5
          obtain ⟨i, hi, rfl, hBi, hzi, HO⟩ := hrel
          have HKS := Lib.hid (lckK_succ x i)
          have HKL := Lib.hid (lckK_len x i)
          by_cases hli : i < 64
          · have p0 : (0 : Int) ≤ (i : Int) := by omega
            have p1 : (i : Int) < 64 := by omega
            have hbi := HBT.out i
            have hkl := HKL.out
            have hab := and_bit sa i hla
            rw [hbi, show decide (i < 64) = true from decide_eq_true hli, Bool.true_and] at hab
            have hln : (lckK x (i + 1)).length = (lckK x i).length + (if lackA x x.n i then 1 else 0) := by
              rw [HKS.out]
              cases lackA x x.n i <;> simp
            have HLN := Lib.hid hln
            have hs7 := HO.out.lt
            have HOa := Lib.hid (HO.out.alloc (.cells #[I i] 3))
            have HCN := Lib.hid (cell_one3 wr (I i) 3)
            obtain ⟨n, hn⟩ : ∃ n, (lckK x i).length = n := ⟨_, rfl⟩
            rw [hn] at HO HOa HLN hkl
            clear hln hbi hn
            cases hbb : lackA x x.n i
            · rw [hbb] at hab HKS HLN
              have HO6 : Hid (wr.ownsRow zb 3 1 u7 (lckK x (i + 1)).length ((lckK x (i + 1)).map I)) := Lib.hid (by rw [HLN.out, HKS.out]; simpa using HO.out)
              clear HO HOa HKS HLN
              simp only [Bool.false_eq_true, if_false] at hab
              go_wp2_with (fail)
              go_roundw
              case rel => first | exact ⟨i + 1, by omega, by go_num, hBi, hzi, HO6⟩ | ((repeat apply Exists.intro); refine ⟨?_, rfl⟩; exact ⟨i + 1, by omega, by go_num, hBi, hzi, HO6⟩)
              case measure => first | (simp [intOf]; done) | (simp [intOf]; omega)
            · rw [hbb] at hab HKS HLN
              simp only [if_true] at hab
              go_wp2_with (first
                | (at_builtin; refine wpList_append_own _ rfl _ _ 33 rfl zb 3 i0 (.int .i64 0) 1 8 Try.underlying33 hi0 hi1 hi2 hi3 rfl (by decide) _ _ _ rfl HOa.out ⟨wr.heap.size, 0, none⟩ 1 1 [I i] rfl rfl HCN.out (by simp [Value.oneCell']) (by unfold maxLen; omega) (by omega) (by simp; omega) ?_; intro v' w6 hown6 hg6 _)
                | fail)
              have HB6 : Hid (Below w2.heap.size w2 w6) := Lib.hid ((hBi.alloc (by omega) _).grown hg6 (by simp; omega) (fun g e => by have := (hs7 g e).1; omega))
              have hz6 : zb ≤ w6.heap.size := by have := hg6.size; simp at this; omega
              have HO6 : Hid (w6.ownsRow zb 3 1 v' (lckK x (i + 1)).length ((lckK x (i + 1)).map I)) := Lib.hid (by rw [HLN.out, HKS.out]; simpa using hown6)
              clear hown6 hg6 HO HOa HKS HLN
              go_wp2_with (fail)
              go_roundw
              case rel => first | exact ⟨i + 1, by omega, by go_num, HB6.out, hz6, HO6⟩ | ((repeat apply Exists.intro); refine ⟨?_, rfl⟩; exact ⟨i + 1, by omega, by go_num, HB6.out, hz6, HO6⟩)
              case measure => first | (simp [intOf]; done) | (simp [intOf]; omega)
          · obtain rfl : i = 64 := by omega
            obtain ⟨A', c', hv, hT⟩ := ints_ownN HO.out rfl
            subst hv
            have HT := Lib.hid hT
            have HBF : Hid (Below w.heap.size w wr) := Lib.hid (HB2.out.trans (hBi.mono (by omega)))
            clear HO hT HKS HKL
            obtain ⟨l, hl⟩ : ∃ l, lckK x 64 = l := ⟨_, rfl⟩
            rw [hl] at HT ⊢
            have HL := Lib.hid hl
            rw [hl] at HR
            clear hl
            go_wp2_with (fail)
            refine bodyPost_ret (v := .tuple #[.slice A' l.length c', I 0]) (by simp [results, Try.results12, go_sem]) rfl ⟨A', c', by rw [HR.out], by rw [HR.out]; exact HT.out, HBF.out⟩
end Go.Proofs.Ytijgfdncocjncaa
