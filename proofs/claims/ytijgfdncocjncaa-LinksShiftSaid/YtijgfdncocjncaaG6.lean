/- The laws' explains: a set of links of a watch. -/
import Derived.Test.YtijgfdncocjncaaG5
import Derived.Test.YtijgfdncocjncaaL4
namespace Go.Proofs.Ytijgfdncocjncaa
set_option linter.unusedVariables false
set_option linter.unusedSimpArgs false
open Go Go.RowKit

def lnkB (x : Wat) (p : Int × Int) : Bool := (ref x p.1.toNat p.2.toNat).isNone
def lnkE (x : Wat) (i : Nat) (p : Int × Int) : Bool := expB x p.1.toNat p.2.toNat i
def isA (x : Wat) (S : List (Int × Int)) (i k : Nat) : Bool := !needB x i || (S.take k).any (lnkE x i)
theorem isA_succ {x : Wat} {S : List (Int × Int)} {i k : Nat} (h : k < S.length) (h2 : isA x S i k = false) : isA x S i (k + 1) = lnkE x i S[k] := by
  unfold isA at h2 ⊢
  rw [List.take_succ_eq_append_getElem h, List.any_append]
  rw [Bool.or_eq_false_iff] at h2
  rw [h2.1, h2.2]
  simp
theorem isA_mono {x : Wat} {S : List (Int × Int)} {i k : Nat} (h2 : isA x S i k = true) : isA x S i S.length = true := by
  unfold isA at h2 ⊢
  rw [Bool.or_eq_true] at h2 ⊢
  refine h2.imp id fun h => ?_
  rw [List.take_length]
  obtain ⟨p, hp, h3⟩ := List.any_eq_true.1 h
  exact List.any_eq_true.2 ⟨p, List.mem_of_mem_take hp, h3⟩
theorem explL_yes {x : Wat} {S : List (Int × Int)} (h1 : ∀ j (h : j < S.length), lnkB x S[j] = true) (h2 : ∀ i, i < x.er.length → isA x S i S.length = true) : explL x S = true := by
  unfold explL
  rw [Bool.and_eq_true, List.all_eq_true, List.all_eq_true]
  refine ⟨fun p hp => ?_, fun i hi => ?_⟩
  · obtain ⟨j, hj, rfl⟩ := List.getElem_of_mem hp
    exact h1 j hj
  · have h := h2 i (List.mem_range.1 hi)
    unfold isA at h
    rwa [List.take_length] at h
theorem explL_no1 {x : Wat} {S : List (Int × Int)} {j : Nat} (hj : j < S.length) (h : lnkB x S[j] = false) : explL x S = false := by
  cases h1 : explL x S with
  | false => rfl
  | true =>
    unfold explL at h1
    rw [Bool.and_eq_true, List.all_eq_true] at h1
    have := h1.1 S[j] (List.getElem_mem hj)
    unfold lnkB at h
    rw [h] at this
    cases this
theorem explL_no2 {x : Wat} {S : List (Int × Int)} {i : Nat} (hi : i < x.er.length) (h : isA x S i S.length = false) : explL x S = false := by
  cases h1 : explL x S with
  | false => rfl
  | true =>
    unfold explL at h1
    rw [Bool.and_eq_true, List.all_eq_true, List.all_eq_true] at h1
    have := h1.2 i (List.mem_range.2 hi)
    unfold isA at h
    rw [List.take_length] at h
    unfold lnkE at h
    rw [h] at this
    cases this
theorem lt_succ_all {n : Nat} {p : ∀ j, j < n → Prop} {k : Nat} (h : ∀ j (hj : j < n), j < k → p j hj) (hk : ∀ hk : k < n, p k hk) : ∀ j (hj : j < n), j < k + 1 → p j hj := fun j hj h1 => by
  by_cases e : j < k
  · exact h j hj e
  · obtain rfl : j = k := by omega
    exact hk hj
set_option maxRecDepth 100000 in
set_option maxHeartbeats 8000000 in
theorem explains22 (x : Wat) (A B : Option Addr) (c d : Nat) (C : Option Addr) (cs : Nat) (S : List (Int × Int)) (w : World) (hx : WatOk x) (hW : WatAt w x A B) (hS : Twos w w.heap.size C S) (hok : LnkOk x S) (hsl : S.length ≤ 1000) :
    Calls Try.prog 22 #[x.val A c B d, .slice C S.length cs] w fun e w' => e = .returned (.bool (explL x S)) ∧ Below w.heap.size w w' := by
  have hm64 : x.er.length ≤ 64 := hx.m64
  have hn6 : x.hb.length ≤ 6 := hx.n6
  have HWA : Hid (∀ W, Below w.heap.size w W → WatAt W x A B) := Lib.hid fun W h => hW.below h
  have HSL : Hid (∀ k (h : k < S.length), ∃ f t : Nat, S[k] = ((f : Int), (t : Int)) ∧ f < x.hb.length ∧ t < x.hb.length ∧ f ≠ t) := Lib.hid fun k h => by
    obtain ⟨f, t, h1, h2⟩ := hok S[k] (List.getElem_mem h)
    exact ⟨f, t, h1, h2⟩
  have H24 : Hid (∀ f t : Nat, f < x.hb.length → t < x.hb.length → f ≠ t → ∀ W, Calls Try.prog 24 #[x.val A c B d, .agg #[I f, I t]] W fun e w' => e = .returned (.bool true) ∧ Below W.heap.size W w') := Lib.hid fun f t hf ht hne W => by
    have h := of24 x A B c d f t W (by omega)
    have e : (inB (f : Int) 0 ((x.n : Int) - 1) && inB (t : Int) 0 ((x.n : Int) - 1) && !((f : Int) == (t : Int))) = true := by
      unfold inB
      have : x.n = x.hb.length := rfl
      simp
      omega
    rw [e] at h
    exact h
  have H25 : Hid (∀ f t : Nat, t < x.hb.length → ∀ W, Below w.heap.size w W → Calls Try.prog 25 #[x.val A c B d, .agg #[I f, I t]] W fun e w' => e = .returned (.bool (lnkB x ((f : Int), (t : Int)))) ∧ Below W.heap.size W w') := Lib.hid fun f t ht W h => holds25 x A B c d f t W hx (hW.below h) ht
  have H36 : Hid (∀ f t i : Nat, t < x.hb.length → i < x.er.length → ∀ W, Below w.heap.size w W → Calls Try.prog 36 #[x.val A c B d, .agg #[I f, I t], I i] W fun e w' => e = .returned (.bool (lnkE x i ((f : Int), (t : Int)))) ∧ Below W.heap.size W w') := Lib.hid fun f t i ht hi W h => explains36 x A B c d f t i W hx (hW.below h) hi ht
  have H37 : Hid (∀ i, i < x.er.length → ∀ W, Below w.heap.size w W → Calls Try.prog 37 #[x.val A c B d, I i] W fun e w' => e = .returned (.bool (needB x i)) ∧ Below W.heap.size W w') := Lib.hid fun i hi W h => needs37 x A B c d i W hx (hW.below h) hi
  have HTW := Lib.hid hS
  have HYES := Lib.hid (@explL_yes x S)
  have HNO1 := Lib.hid fun j => @explL_no1 x S j
  have HNO2 := Lib.hid fun i => @explL_no2 x S i
  have HAS := Lib.hid fun i k => @isA_succ x S i k
  have HAM := Lib.hid fun i k => @isA_mono x S i k
  have HA0 : Hid (∀ i, isA x S i 0 = !needB x i) := Lib.hid fun i => by unfold isA; simp
  have HB0 : Hid (Below w.heap.size w (w.alloc (.cells #[.slice A x.hb.length c, .slice B x.er.length d, I x.en] 25))) := Lib.hid (by (repeat' (first | assumption | exact Below.refl _ _ | refine Below.drew ?_ | refine below_drewN ?_ _ | refine Below.setCell ?_ (by first | omega | (simp; done) | (simp; omega)) _ | refine Below.alloc ?_ (by first | omega | (simp; done) | (simp; omega)) _ | refine Below.trans ?_ (Below.mono (by assumption) (by first | omega | (simp; done) | (simp; omega))))))
  have HX0 : Hid (Box (w.alloc (.cells #[.slice A x.hb.length c, .slice B x.er.length d, I x.en] 25)) w.heap.size [.slice A x.hb.length c, .slice B x.er.length d, I x.en]) := Lib.hid (Box.new w [.slice A x.hb.length c, .slice B x.er.length d, I x.en] 25)
  have HZ0 : Hid ((w.alloc (.cells #[.slice A x.hb.length c, .slice B x.er.length d, I x.en] 25)).heap.size = w.heap.size + 1) := Lib.hid (by simp)
  generalize explL x S = eb0 at *
  clear hx hW hS hok
  unfold Wat.val at H24 H25 H36 H37 ⊢
  obtain ⟨en, hen2⟩ : ∃ en, x.en = en := ⟨_, rfl⟩
  rw [hen2] at H24 H25 H36 H37 HB0 HX0 HZ0 ⊢
  clear hen2
  go_enter Try.func22, Try.ntmps22
  go_wp2_with (fail)
  generalize w.alloc (.cells #[.slice A x.hb.length c, .slice B x.er.length d, I en] 25) = wa at *
  have hza := HZ0.out
  have HCE : Hid (∀ W, Below wa.heap.size wa W → Below w.heap.size w W ∧ w.heap.size ≤ W.heap.size ∧ W.cell? ⟨w.heap.size, 0, none⟩ = some (.slice A x.hb.length c) ∧ W.cell? ⟨w.heap.size, 1, none⟩ = some (.slice B x.er.length d) ∧ W.cell? ⟨w.heap.size, 2, none⟩ = some (I en)) := Lib.hid fun W hB => by
    have h := HB0.out.trans (hB.mono (by omega))
    have hx := HX0.out.call hB
    exact ⟨h, h.size, (hx.at_ 0 _ rfl).1, (hx.at_ 1 _ rfl).1, (hx.at_ 2 _ rfl).1⟩
  go_loopw [5] (fun s wr => ∃ k : Nat, k ≤ S.length ∧ s = I k ∧ Below wa.heap.size wa wr ∧ Hid (∀ j (h : j < S.length), j < k → lnkB x S[j] = true)) (fun s _ => S.length - (intOf s).toNat)
  case atStart => exact ⟨0, by omega, rfl, Below.refl _ _, Lib.hid fun j h h2 => by omega⟩
  case round =>
    obtain ⟨k, hk, rfl, hB, HA⟩ := hrel
    have hzr := hB.size
    by_cases hlt : k < S.length
    · obtain ⟨sb, so, rfl, hsz, hsc⟩ := HTW.out (by omega)
      obtain ⟨f, t, hft, hfn, htn, hne⟩ := HSL.out k hlt
      obtain ⟨hs0, hs1⟩ := hsc k hlt
      rw [hft] at hs0 hs1
      dsimp only at hs0 hs1
      have HCK : Hid (∀ W, Below wr.heap.size wr W → W.cell? ⟨w.heap.size, 0, none⟩ = some (.slice A x.hb.length c) ∧ W.cell? ⟨w.heap.size, 1, none⟩ = some (.slice B x.er.length d) ∧ W.cell? ⟨w.heap.size, 2, none⟩ = some (I en) ∧ W.cell? ⟨sb, so + k * 2, none⟩ = some (I f) ∧ W.cell? ⟨sb, so + k * 2 + 1, none⟩ = some (I t)) := Lib.hid fun W hW => by
        obtain ⟨q, _, h0, h1, h2⟩ := HCE.out W (hB.trans (hW.mono hzr))
        exact ⟨h0, h1, h2, (q.cell (p := ⟨sb, _, none⟩) hsz).trans hs0, (q.cell (p := ⟨sb, _, none⟩) hsz).trans hs1⟩
      have H24k := Lib.hid (H24.out f t hfn htn hne)
      have H25k := Lib.hid fun W (h : Below wr.heap.size wr W) => H25.out f t htn W (HCE.out W (hB.trans (h.mono hzr))).1
      have HL1 := Lib.hid (HNO1.out k hlt)
      have HL2 := Lib.hid fun (h : lnkB x S[k] = true) => lt_succ_all HA.out (fun _ => h)
      rw [hft] at HL1 HL2
      have p0 : (0 : Int) ≤ (k : Int) := by omega
      have p1 : (k : Int) < (S.length : Int) := by omega
      obtain ⟨r, hr⟩ : ∃ r, lnkB x ((f : Int), (t : Int)) = r := ⟨_, rfl⟩
      rw [hr] at H25k HL1 HL2
      clear hr hft hsc hs0 hs1 HA
      obtain ⟨x0_, x1_, x2_, s0_, s1_⟩ := HCK.out wr (Below.refl _ _)
      go_wp2_with (fail)
      refine (wpIn_wide (n := 9)).1 ?_
      refine wpIn_region_text [0, 1, 2, 3, 4, 5, 6, 7, 8, 9, 10, 11, 12, 13, 14, 15] rfl (by kernel_rfl) (by kernel_rfl) (fun _ d _ _ _ h => by cases d <;> exact h) ?_
      iterate 5 (refine ordT_li rfl rfl (fun K hK => ?_); go_simp; refine hK _ ?_; clear hK K)
      (refine ordT_hv rfl rfl rfl (fun K hK => ?_))
      gi_wp2_with (first | (refine And.intro trivial ?_; gi_at_call 24; refine (callsIn_wide.2 (H24k.out _)).mono ?_; rintro e w6 ⟨rfl, hB6⟩) | fail)
      have hC6 : Below wr.heap.size wr w6 := (Below.refl _ wr).drew.trans hB6
      clear x0_ x1_ x2_ s0_ s1_
      obtain ⟨x0_, x1_, x2_, s0_, s1_⟩ := HCK.out w6 hC6
      iterate 7 (refine ordT_li rfl rfl (fun K hK => ?_); go_simp; refine hK _ ?_; clear hK K)
      refine ordT_hvg rfl rfl (by go_simp) (fun K hK => ?_)
      gi_wp2_with (first | (refine And.intro trivial ?_; gi_at_call 25; refine (callsIn_wide.2 (H25k.out w6 hC6)).mono ?_; rintro e w7 ⟨rfl, hB7⟩) | fail)
      have HB7 : Hid (Below wa.heap.size wa w7) := Lib.hid ((hB.trans (hC6.mono hzr)).trans (hB7.mono (Nat.le_trans hzr hC6.size)))
      iterate 2 (refine ordT_li rfl rfl (fun K hK => ?_); go_simp; refine hK _ ?_; clear hK K)
      refine ordT_nil ?_
      clear x0_ x1_ x2_ s0_ s1_ hB6 hC6 hB7
      cases r
      · have HR := Lib.hid (HL1.out rfl)
        go_wp2_with (fail)
        exact bodyPost_ret (v := .bool false) (by simp [results, Try.results22, go_sem]) rfl ⟨by rw [HR.out], (HCE.out _ HB7.out).1⟩
      · have HS := Lib.hid (HL2.out rfl)
        go_wp2_with (fail)
        go_roundw
        case rel => first | exact ⟨k + 1, by omega, by go_num, HB7.out, HS⟩ | ((repeat apply Exists.intro); refine ⟨?_, rfl⟩; exact ⟨k + 1, by omega, by go_num, HB7.out, HS⟩)
        case measure => first | (simp [intOf]; done) | (simp [intOf]; omega)
    · have HR1 := Lib.hid fun j (h : j < S.length) => HA.out j h (by omega)
      have HYE := Lib.hid (HYES.out HR1.out)
      clear HA HR1
      go_wp2_with (fail)
      have HB1 := Lib.hid hB
      clear hB
      go_loopw [6] (fun s wi => ∃ i : Nat, i ≤ x.er.length ∧ s = I i ∧ Below wa.heap.size wa wi ∧ Hid (∀ j, j < i → isA x S j S.length = true)) (fun s _ => x.er.length - (intOf s).toNat)
      case atStart => exact ⟨0, by omega, rfl, HB1.out, Lib.hid fun j h => by omega⟩
      case round =>
        obtain ⟨i, hi, rfl, hB, HA⟩ := hrel
        have hzr := hB.size
        obtain ⟨hbw, hzw, c0, c1, c2⟩ := HCE.out _ hB
        by_cases hli : i < x.er.length
        · have H37i := Lib.hid (H37.out i hli _ hbw)
          have HA0i := Lib.hid (HA0.out i)
          have HASi := Lib.hid fun k => HAS.out i k
          have HAMi := Lib.hid fun k => HAM.out i k
          have HN2 := Lib.hid (HNO2.out i hli)
          have HNX := Lib.hid fun h => all_succ HA.out h
          have H36i := Lib.hid fun f t ht => H36.out f t i ht hli
          have p0 : (0 : Int) ≤ (i : Int) := by omega
          have p1 : (i : Int) < (x.er.length : Int) := by omega
          go_wp2_with (first
            | (go_at_call 37; refine H37i.out.mono ?_; rintro e w3 ⟨rfl, hB3⟩)
            | fail)
          have hz3 := hB3.size
          have HB3 : Hid (Below wa.heap.size wa w3) := Lib.hid (hB.trans (hB3.mono hzr))
          clear hB3 c0 c1 c2 H37i
          go_loopw [7, 8] (fun s7 s8 wi => ∃ k : Nat, k ≤ S.length ∧ s8 = I k ∧ s7 = .bool (isA x S i k) ∧ Below w3.heap.size w3 wi) (fun _ s _ => S.length - (intOf s).toNat)
          case atStart => exact ⟨0, by omega, rfl, by rw [HA0i.out], Below.refl _ _⟩
          case round =>
            obtain ⟨k, hk, rfl, rfl, hBk⟩ := hrel
            have hzk := hBk.size
            have hBka := HB3.out.trans (hBk.mono (by have := HB3.out.size; omega))
            have hzka := hBka.size
            obtain ⟨is_, his⟩ : ∃ b, isA x S i k = b := ⟨_, rfl⟩
            by_cases hlk : k < S.length
            · have HAk := Lib.hid (HASi.out k hlk)
              rw [his] at HAk ⊢
              cases is_
              · obtain ⟨sb, so, rfl, hsz, hsc⟩ := HTW.out (by omega)
                obtain ⟨f, t, hft, hfn, htn, hne⟩ := HSL.out k hlk
                obtain ⟨hs0, hs1⟩ := hsc k hlk
                rw [hft] at hs0 hs1
                dsimp only at hs0 hs1
                have HCK : Hid (∀ W, Below wr.heap.size wr W → W.cell? ⟨w.heap.size, 0, none⟩ = some (.slice A x.hb.length c) ∧ W.cell? ⟨w.heap.size, 1, none⟩ = some (.slice B x.er.length d) ∧ W.cell? ⟨w.heap.size, 2, none⟩ = some (I en) ∧ W.cell? ⟨sb, so + k * 2, none⟩ = some (I f) ∧ W.cell? ⟨sb, so + k * 2 + 1, none⟩ = some (I t)) := Lib.hid fun W hW => by
                  obtain ⟨q, _, h0, h1, h2⟩ := HCE.out W (hBka.trans (hW.mono hzka))
                  exact ⟨h0, h1, h2, (q.cell (p := ⟨sb, _, none⟩) hsz).trans hs0, (q.cell (p := ⟨sb, _, none⟩) hsz).trans hs1⟩
                have H36k := Lib.hid fun W (h : Below wr.heap.size wr W) => H36i.out f t htn W (HCE.out W (hBka.trans (h.mono hzka))).1
                have HAF := Lib.hid (HAk.out rfl)
                rw [hft] at HAF
                have q0 : (0 : Int) ≤ (k : Int) := by omega
                have q1 : (k : Int) < (S.length : Int) := by omega
                obtain ⟨r, hr⟩ : ∃ r, lnkE x i ((f : Int), (t : Int)) = r := ⟨_, rfl⟩
                rw [hr] at H36k HAF
                clear hr hft hsc hs0 hs1 his HAk
                obtain ⟨x0_, x1_, x2_, s0_, s1_⟩ := HCK.out wr (Below.refl _ _)
                go_wp2_with (fail)
                refine (wpIn_wide (n := 9)).1 ?_
                refine wpIn_region_text [0, 1, 2, 3, 4, 5, 6, 7] rfl (by kernel_rfl) (by kernel_rfl) (fun _ d _ _ _ h => by cases d <;> exact h) ?_
                iterate 6 (refine ordT_li rfl rfl (fun K hK => ?_); go_simp; refine hK _ ?_; clear hK K)
                (refine ordT_hv rfl rfl rfl (fun K hK => ?_))
                gi_wp2_with (first | (refine And.intro trivial ?_; gi_at_call 36; refine (callsIn_wide.2 (H36k.out _ (Below.refl _ wr).drew)).mono ?_; rintro e w6 ⟨rfl, hB6⟩) | fail)
                have hC6 : Below wr.heap.size wr w6 := (Below.refl _ wr).drew.trans hB6
                (refine ordT_li rfl rfl (fun K hK => ?_); go_simp; refine hK _ ?_; clear hK K)
                refine ordT_nil ?_
                clear x0_ x1_ x2_ s0_ s1_ hB6
                go_wp2_with (fail)
                go_roundw
                case rel => first | exact ⟨k + 1, by omega, by go_num, by rw [HAF.out], hBk.trans (hC6.mono hzk)⟩ | ((repeat apply Exists.intro); refine ⟨?_, rfl⟩; exact ⟨k + 1, by omega, by go_num, by rw [HAF.out], hBk.trans (hC6.mono hzk)⟩)
                case measure => first | (simp [intOf]; done) | (simp [intOf]; omega)
              · have HT := Lib.hid (HAMi.out k his)
                go_wp2_with (fail)
                go_roundw
                case rel => first | exact ⟨i + 1, by omega, by go_num, hBka, Lib.hid (HNX.out HT.out)⟩ | ((repeat apply Exists.intro); refine ⟨?_, rfl⟩; exact ⟨i + 1, by omega, by go_num, hBka, Lib.hid (HNX.out HT.out)⟩)
                case measure => first | (simp [intOf]; done) | (simp [intOf]; omega)
            · obtain rfl : k = S.length := by omega
              rw [his] at HN2 HNX ⊢
              cases is_
              · have HR := Lib.hid (HN2.out rfl)
                go_wp2_with (fail)
                exact bodyPost_ret (v := .bool false) (by simp [results, Try.results22, go_sem]) rfl ⟨by rw [HR.out], (HCE.out _ hBka).1⟩
              · have HT := Lib.hid (HNX.out rfl)
                go_wp2_with (fail)
                go_roundw
                case rel => first | exact ⟨i + 1, by omega, by go_num, hBka, HT⟩ | ((repeat apply Exists.intro); refine ⟨?_, rfl⟩; exact ⟨i + 1, by omega, by go_num, hBka, HT⟩)
                case measure => first | (simp [intOf]; done) | (simp [intOf]; omega)
        · have HR := Lib.hid (HYE.out fun j h => HA.out j (by omega))
          go_wp2_with (fail)
          exact bodyPost_ret (v := .bool true) (by simp [results, Try.results22, go_sem]) rfl ⟨by rw [HR.out], hbw⟩
end Go.Proofs.Ytijgfdncocjncaa
