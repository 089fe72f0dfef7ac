/- Is a watch valid? Of the program: the walk. -/
import Derived.Test.YtijgfdncocjncaaS1
namespace Go.Proofs.Ytijgfdncocjncaa
set_option linter.unusedVariables false
set_option linter.unusedSimpArgs false
open Go Go.RowKit

def lastT (x : Wat) (k : Nat) : Int := if k = 0 then 0 else x.tm (k - 1)
theorem er_get (x : Wat) {k : Nat} (h : k < x.er.length) : x.er[k] = (x.sp k, x.tm k) := by simp [Wat.sp, Wat.tm, List.getD, h]
theorem eru_iff {x : Wat} {k : Nat} (hk : k < x.er.length) (hp : ∀ i, i < k → EruOk x i) : EruOk x k ↔ inB (x.sp k) 0 ((x.n : Int) - 1) = true ∧ inB (x.tm k) (lastT x k) x.en = true ∧ ((x.er.take k).any fun a => a == (x.sp k, x.tm k)) = false := by
  rw [inB_true, inB_true, List.any_eq_false]
  have hl : 0 ≤ lastT x k := by
    unfold lastT
    split
    · exact Int.le_refl _
    · exact ((hp (k - 1) (by omega)).tm).1
  constructor
  · intro h
    refine ⟨h.sp, ⟨?_, h.tm.2⟩, fun a ha => ?_⟩
    · unfold lastT
      split
      · exact h.tm.1
      · exact h.mono (by omega)
    · obtain ⟨i, hi, rfl⟩ := List.mem_iff_getElem.1 ha
      rw [List.length_take] at hi
      rw [List.getElem_take, er_get x (by omega)]
      have := h.dist i (by omega)
      simpa using fun e1 e2 => this ⟨e1, e2⟩
  · rintro ⟨h1, h2, h3⟩
    refine ⟨h1, ⟨by omega, h2.2⟩, fun h0 => ?_, fun i hi he => ?_⟩
    · unfold lastT at h2
      rw [if_neg (by omega)] at h2
      exact h2.1
    · have := h3 (x.er[i]'(by omega)) (List.mem_iff_getElem.2 ⟨i, by rw [List.length_take]; omega, by simp⟩)
      rw [er_get x (by omega)] at this
      simp [he.1, he.2] at this
theorem hab_iff {x : Wat} : (x.hb.any fun s => !habV s) = false ↔ ∀ k, k < x.n → HabOk x k := by
  rw [List.any_eq_false]
  have key : ∀ k (h : k < x.hb.length), habV x.hb[k] = true ↔ HabOk x k := fun k h => by
    have e : x.hb[k] = (x.ol k, x.oh k, x.dl k, x.dh k) := by simp [Wat.ol, Wat.oh, Wat.dl, Wat.dh, List.getD, h]
    rw [e]
    simp only [habV, Bool.and_eq_true, Bool.or_eq_true, decide_eq_true_iff]
    constructor
    · rintro ⟨h1, h2, h3, h4⟩
      exact ⟨fun h5 => by omega, h2, h3, h4⟩
    · rintro ⟨h1, h2, h3, h4⟩
      refine ⟨?_, h2, h3, h4⟩
      rcases Int.lt_or_le (x.oh k) (x.ol k) with h5 | h5
      · exact .inl h5
      · exact .inr (h1 h5)
  constructor
  · intro h k hk
    have h2 : ¬ (!habV (x.hb[k]'hk)) = true := h _ (List.getElem_mem (show k < x.hb.length from hk))
    refine (key k hk).1 ?_
    cases hv : habV (x.hb[k]'hk)
    · rw [hv] at h2; exact absurd rfl h2
    · rfl
  · intro h s hs
    obtain ⟨k, hk, rfl⟩ := List.mem_iff_getElem.1 hs
    simpa using (key k hk).2 (h k hk)
theorem seen_take (x : Wat) {k : Nat} (h : k < x.er.length) : x.er.take (k + 1) = x.er.take k ++ [(x.sp k, x.tm k)] := by
  rw [List.take_succ_eq_append_getElem h, er_get x h]
set_option maxRecDepth 100000 in
set_option maxHeartbeats 4000000 in
theorem isWatch28 (x : Wat) (A B : Option Addr) (c d : Nat) (w : World) (hW : WatAt w x A B) (hx : Wat64 x) :
    Calls Try.prog 28 #[x.val A c B d] w fun e w' => e = .returned (.bool (watB x)) ∧ Below w.heap.size w w' := by
  have H29 : Hid (∀ (n lo hi : Int) (W : World), Calls Try.prog 29 #[I n, I lo, I hi] W fun e w' => e = .returned (.bool (inB n lo hi)) ∧ W = w') := Lib.hid within29
  have HFI : Hid (∀ W, Below w.heap.size w W → WatAt W x A B) := Lib.hid fun W hB => hW.below hB
  have H45 : Hid (∀ W, WatAt W x A B → Calls Try.prog 45 #[.slice A x.hb.length c, .func (.func 46) #[] #[]] W fun e w' => e = .returned (.bool (x.hb.any fun s => !habV s)) ∧ Below W.heap.size W w') := Lib.hid fun W h => cont45 A c x.hb W h.hb hx.hlen
  have hl1 := hx.hlen
  have hl2 := hx.elen
  have HB1 : Hid (6 < x.hb.length → watB x = false) := Lib.hid fun h => bool_false fun hb => by have : x.hb.length ≤ 6 := (watB_iff.1 hb).n6; omega
  have HB2 : Hid (64 < x.er.length → watB x = false) := Lib.hid fun h => bool_false fun hb => by have : x.er.length ≤ 64 := (watB_iff.1 hb).m64; omega
  have HB3 : Hid (inB x.en 0 1048576 = false → watB x = false) := Lib.hid fun h => bool_false fun hb => by
    have := inB_true.2 (watB_iff.1 hb).en
    rw [h] at this; cases this
  have HE : Hid (∀ k, k < x.er.length → ¬ EruOk x k → watB x = false) := Lib.hid fun k hk h => bool_false fun hb => h ((watB_iff.1 hb).eru k hk)
  have HEND : Hid (x.hb.length ≤ 6 → x.er.length ≤ 64 → inB x.en 0 1048576 = true → (∀ k, k < x.er.length → EruOk x k) → watB x = !(x.hb.any fun s => !habV s)) := Lib.hid fun h1 h2 h3 h4 => by
    cases h5 : (x.hb.any fun s => !habV s)
    · exact watB_iff.2 ⟨h1, h2, inB_true.1 h3, hab_iff.1 h5, h4⟩
    · refine bool_false fun hb => ?_
      have := hab_iff.2 (watB_iff.1 hb).hab
      rw [h5] at this; cases this
  have HEI : Hid (∀ k, k < x.er.length → (∀ i, i < k → EruOk x i) → (EruOk x k ↔ inB (x.sp k) 0 ((x.hb.length : Int) - 1) = true ∧ inB (x.tm k) (lastT x k) x.en = true ∧ ((x.er.take k).any fun a => a == (x.sp k, x.tm k)) = false)) := Lib.hid fun k hk hp => eru_iff hk hp
  have HST : Hid (∀ k, k < x.er.length → x.er.take (k + 1) = x.er.take k ++ [(x.sp k, x.tm k)]) := Lib.hid fun k hk => seen_take x hk
  have H64 : Hid (∀ k, k < x.er.length → (In64 (x.sp k) ∧ In64 (x.tm k)) ∧ ∀ a ∈ x.er.take k, In64 a.1 ∧ In64 a.2) := Lib.hid fun k hk => ⟨by have := hx.er k hk; rwa [er_get x hk] at this, fun a ha => by
    obtain ⟨i, hi, rfl⟩ := List.mem_iff_getElem.1 ha
    rw [List.length_take] at hi
    rw [List.getElem_take]
    exact hx.er i (by omega)⟩
  have HLT : Hid (∀ k, lastT x (k + 1) = x.tm k ∧ lastT x 0 = 0) := Lib.hid fun k => ⟨by simp [lastT], rfl⟩
  have HER : Hid (∀ k (h : k < x.er.length), x.er[k].1 = x.sp k ∧ x.er[k].2 = x.tm k) := Lib.hid fun k h => by rw [er_get x h]; exact ⟨rfl, rfl⟩
  clear hW hx
  simp only [Wat.val]
  generalize watB x = wb at *
  generalize lastT x = lt at *
  generalize x.en = en at *
  have HW : Hid (Below w.heap.size w (w.alloc (.cells #[.slice A x.hb.length c, .slice B x.er.length d, I en] 25))) := Lib.hid (below1 _ _)
  have HCP : Hid (∀ W, Below (w.heap.size + 1) (w.alloc (.cells #[.slice A x.hb.length c, .slice B x.er.length d, I en] 25)) W → W.cell? ⟨w.heap.size, 0, none⟩ = some (.slice A x.hb.length c) ∧ W.cell? ⟨w.heap.size, 1, none⟩ = some (.slice B x.er.length d) ∧ W.cell? ⟨w.heap.size, 2, none⟩ = some (I en) ∧ Below w.heap.size w W) := Lib.hid fun W hW =>
    ⟨(hW.cell (p := ⟨_, _, none⟩) (by simp)).trans (by simp [go_sem]), (hW.cell (p := ⟨_, _, none⟩) (by simp)).trans (by simp [go_sem]), (hW.cell (p := ⟨_, _, none⟩) (by simp)).trans (by simp [go_sem]), (below1 w _).trans (hW.mono (by omega))⟩
  have hsz : (w.alloc (.cells #[.slice A x.hb.length c, .slice B x.er.length d, I en] 25)).heap.size = w.heap.size + 1 := by simp
  by_cases h6 : 6 < x.hb.length
  · have HF := Lib.hid (HB1.out h6)
    go_enter Try.func28, Try.ntmps28
    go_wp2_with (fail)
    refine bodyPost_ret (v := .bool false) (by simp [results, Try.results28, go_sem]) rfl ⟨by rw [HF.out], HW.out⟩
  by_cases h64 : 64 < x.er.length
  · have HF := Lib.hid (HB2.out h64)
    go_enter Try.func28, Try.ntmps28
    go_wp2_with (fail)
    refine bodyPost_ret (v := .bool false) (by simp [results, Try.results28, go_sem]) rfl ⟨by rw [HF.out], HW.out⟩
  cases hen : inB en 0 1048576
  · have HF := Lib.hid (HB3.out hen)
    go_enter Try.func28, Try.ntmps28
    go_wp2_with (first
      | (go_at_call 29; refine (H29.out _ _ _ _).mono ?_; rintro e w1 ⟨rfl, rfl⟩)
      | fail)
    refine bodyPost_ret (v := .bool false) (by simp [results, Try.results28, go_sem]) rfl ⟨by rw [HF.out], HW.out⟩
  have HEN2 := Lib.hid (HEND.out (by omega) (by omega) hen)
  have hmm := @run_makeMap Try.prog
  have HM0 : Hid (((w.alloc (.cells #[.slice A x.hb.length c, .slice B x.er.length d, I en] 25)).alloc (.map #[] 0)).ownsMap Try.prog 50 (plainElem Try.prog 4) (w.heap.size + 1) 0 (seenD (x.er.take 0))) := Lib.hid (by
    have := World.ownsMap_made (w.alloc (.cells #[.slice A x.hb.length c, .slice B x.er.length d, I en] 25)) Try.prog 50 (plainElem (H := Unit) Try.prog 4)
    rw [hsz] at this
    exact this)
  have HB0 : Hid (Below (w.heap.size + 1) (w.alloc (.cells #[.slice A x.hb.length c, .slice B x.er.length d, I en] 25)) ((w.alloc (.cells #[.slice A x.hb.length c, .slice B x.er.length d, I en] 25)).alloc (.map #[] 0))) := Lib.hid ((Below.refl _ _).alloc (by simp) _)
  have hz0 : ((w.alloc (.cells #[.slice A x.hb.length c, .slice B x.er.length d, I en] 25)).alloc (.map #[] 0)).heap.size = w.heap.size + 2 := by simp
  have hc0 := HCP.out _ HB0.out
  obtain ⟨c0, c1, c2, _⟩ := hc0
  have h6' : x.hb.length ≤ 6 := by omega
  have h64' : x.er.length ≤ 64 := by omega
  go_enter Try.func28, Try.ntmps28
  go_wp2_with (first
    | (go_at_call 29; refine (H29.out _ _ _ _).mono ?_; rintro e w1 ⟨rfl, rfl⟩)
    | fail)
  clear c0 c1 c2
  generalize (w.alloc (.cells #[.slice A x.hb.length c, .slice B x.er.length d, I en] 25)).alloc (.map #[] 0) = w0 at *
  generalize (w.alloc (.cells #[.slice A x.hb.length c, .slice B x.er.length d, I en] 25)) = wa at *
  go_loopw [4, 27] (fun s4 s27 wr => ∃ k : Nat, k ≤ x.er.length ∧ s27 = I k ∧ s4 = I (lt k) ∧ Below (w.heap.size + 1) wa wr ∧ w.heap.size + 2 ≤ wr.heap.size ∧ Hid (wr.ownsMap Try.prog 50 (plainElem Try.prog 4) (w.heap.size + 1) k (seenD (x.er.take k))) ∧ Hid (∀ i, i < k → EruOk x i)) (fun _ s _ => x.er.length - (intOf s).toNat)
  case atStart => exact ⟨0, by omega, rfl, by rw [(HLT.out 0).2], HB0.out, by omega, HM0, Lib.hid fun i h => by omega⟩
  case round =>
    clear HB0 hz0 HM0
    obtain ⟨k, hk, rfl, rfl, hB, hz, HM, HP⟩ := hrel
    obtain ⟨c0, c1, c2, hBw⟩ := HCP.out _ hB
    by_cases hlt : k < x.er.length
    · obtain ⟨eb, eo, hBe, hez, hec⟩ := ((HFI.out _ hBw).er) (by omega)
      subst hBe
      obtain ⟨r0, r1⟩ := hec k hlt
      obtain ⟨q0, q1⟩ := HER.out k hlt
      rw [q0] at r0
      rw [q1] at r1
      obtain ⟨h64k, h64t⟩ := H64.out k hlt
      have HIFF := Lib.hid (HEI.out k hlt HP.out)
      have HEk := Lib.hid (HE.out k hlt)
      have HSTk := Lib.hid (HST.out k hlt)
      have HLTk := Lib.hid (HLT.out k).1
      have HL := Lib.hid (look_seen (e := (x.sp k, x.tm k)) (HM.out.alloc (.cells #[I (x.sp k), I (x.tm k)] 50)) h64k h64t)
      have HMa := Lib.hid (HM.out.alloc (.cells #[I (x.sp k), I (x.tm k)] 50))
      have HBa : Hid (Below (w.heap.size + 1) wa (wr.alloc (.cells #[I (x.sp k), I (x.tm k)] 50))) := Lib.hid (hB.alloc (by omega) _)
      obtain ⟨d0, d1, d2, _⟩ := HCP.out _ HBa.out
      have H64K := Lib.hid h64k
      have HNX : Hid (EruOk x k → ∀ i, i < k + 1 → EruOk x i) := Lib.hid fun h i hi => by
        rcases Nat.lt_succ_iff_lt_or_eq.1 hi with h1 | rfl
        · exact HP.out i h1
        · exact h
      clear hec q0 q1 h64k h64t HM
      dsimp only at HL
      generalize x.sp k = sp at *
      generalize x.tm k = tm at *
      have p0 : (0 : Int) ≤ (k : Int) := by omega
      have p1 : (k : Int) < (x.er.length : Int) := by omega
      cases hb1 : inB sp 0 ((x.hb.length : Int) - 1)
      · have HF : Hid (wb = false) := Lib.hid (HEk.out fun h => by have := (HIFF.out.1 h).1; rw [hb1] at this; cases this)
        go_wp2_with (first
          | (go_at_call 29; refine (H29.out _ _ _ _).mono ?_; rintro e w1 ⟨rfl, rfl⟩)
          | fail)
        refine bodyPost_ret (v := .bool false) (by simp [results, Try.results28, go_sem]) rfl ⟨by rw [HF.out], hBw.trans ((Below.refl _ _).alloc hBw.size _)⟩
      · cases hb2 : inB tm (lt k) en
        · have HF : Hid (wb = false) := Lib.hid (HEk.out fun h => by have := (HIFF.out.1 h).2.1; rw [hb2] at this; cases this)
          go_wp2_with (first
            | (go_at_call 29; refine (H29.out _ _ _ _).mono ?_; rintro e w1 ⟨rfl, rfl⟩)
            | fail)
          refine bodyPost_ret (v := .bool false) (by simp [results, Try.results28, go_sem]) rfl ⟨by rw [HF.out], hBw.trans ((Below.refl _ _).alloc hBw.size _)⟩
        · have hlk := HL.out
          cases hb3 : ((x.er.take k).any fun a => a == (sp, tm))
          · rw [hb3] at hlk
            have HOK : Hid (EruOk x k) := Lib.hid (HIFF.out.2 ⟨hb1, hb2, hb3⟩)
            have HP2 := Lib.hid (HNX.out HOK.out)
            clear hb3 HL HIFF HEk HNX
            go_wp2_with (first
              | (go_at_call 29; refine (H29.out _ _ _ _).mono ?_; rintro e w1 ⟨rfl, rfl⟩)
              | fail)
            have HBX : Hid (Box (wr.alloc (.cells #[I sp, I tm] 50)) wr.heap.size [I sp, I tm]) := Lib.hid (Box.new wr [I sp, I tm] 50)
            clear r0 r1 c0 c1 c2 d0 d1 d2 hlk
            have hza : (wr.alloc (.cells #[I sp, I tm] 50)).heap.size = wr.heap.size + 1 := by simp
            obtain ⟨eB, heB⟩ : ∃ eB, eB = wr.heap.size := ⟨_, rfl⟩
            rw [← heB] at HBX hza ⊢
            have heB2 : w.heap.size + 2 ≤ eB := by omega
            have heB3 : eB ≠ w.heap.size + 1 := by omega
            generalize wr.alloc (.cells #[I sp, I tm] 50) = wc at *
            clear heB hz hB
            refine wp_norm ?_
            refine (wpIn_wide (n := 9)).1 ?_
            refine wpIn_region_plan (Plan.ons [0, 1, 2, 3, 4, 5] .fin) [2, 3, 4] (fun W' => Box W' eB [I sp, I tm]) [] rfl (by kernel_rfl) (by kernel_rfl) (fun _ _ _ _ _ h => by cases h.1) HBX.out.drew ?_
            (refine ordQ_li rfl rfl rfl (fun K hK => ?_); go_simp; refine hK _ ?_; clear hK K)
            obtain ⟨x0, _⟩ := HBX.out.at_ 0 _ rfl
            obtain ⟨x1, _⟩ := HBX.out.at_ 1 _ rfl
            (refine ordQ_li rfl rfl rfl (fun K hK => ?_); go_simp; refine hK _ ?_; clear hK K)
            (refine ordQ_held (.pointer (some ⟨eB, 1, none⟩)) rfl rfl rfl rfl (fun W' hC' => ?_) (fun K hK => ?_); (focus (obtain _ := hC'; go_simp; try exact ⟨rfl, rfl⟩)); go_simp; refine hK _ ?_; clear hK K)
            (refine ordQ_held (I tm) rfl rfl rfl rfl (fun W' hC' => ?_) (fun K hK => ?_); (focus (obtain ⟨g0, _⟩ := hC'.at_ 1 _ rfl; go_simp; try exact ⟨rfl, rfl⟩)); go_simp; refine hK _ ?_; clear hK K)
            (refine ordQ_held (I tm) rfl rfl rfl rfl (fun W' hC' => ?_) (fun K hK => ?_); (focus (obtain _ := hC'; go_simp; try exact ⟨rfl, rfl⟩)); go_simp; refine hK _ ?_; clear hK K)
            refine ordQ_hv rfl rfl rfl (fun K hK => ?_)
            refine opIn_seen rfl _ _ _ _ rfl (w.heap.size + 1) k (x.er.take k) (sp, tm) rfl rfl rfl HMa.out.drew (by unfold maxLen; omega) H64K.out ?_
            intro w6 hown6 hg6
            have HB6 : Hid (Box w6 eB [I sp, I tm]) := Lib.hid (HBX.out.drew.grown hg6 (fun e => heB3 (by injection e with e; exact e.symm)))
            refine hK _ _ (fun _ => HB6.out) ?_
            clear hK K
            refine ordQ_fin ?_
            refine ⟨rfl, ?_⟩
            have HM6 : Hid (w6.ownsMap Try.prog 50 (plainElem Try.prog 4) (w.heap.size + 1) (k + 1) (seenD (x.er.take (k + 1)))) := Lib.hid (by rw [HSTk.out]; exact hown6)
            have HB7 : Hid (Below (w.heap.size + 1) wa w6) := Lib.hid (HBa.out.drew.grown hg6 (by have := hza; simp; omega) (fun j e => by injection e with e; omega))
            have hz6 : w.heap.size + 2 ≤ w6.heap.size := by have := hg6.size; simp at this; omega
            clear hown6 hg6
            go_wp2_with (fail)
            go_roundw
            case rel => first | exact ⟨k + 1, by omega, by go_num, by rw [HLTk.out], HB7.out, hz6, HM6, HP2⟩ | ((repeat apply Exists.intro); refine ⟨?_, rfl⟩; exact ⟨k + 1, by omega, by go_num, by rw [HLTk.out], HB7.out, hz6, HM6, HP2⟩)
            case measure => first | (simp [intOf]; done) | (simp [intOf]; omega)
          · rw [hb3] at hlk
            have HF : Hid (wb = false) := Lib.hid (HEk.out fun h => by have := (HIFF.out.1 h).2.2; rw [hb3] at this; cases this)
            clear hb3
            go_wp2_with (first
              | (go_at_call 29; refine (H29.out _ _ _ _).mono ?_; rintro e w1 ⟨rfl, rfl⟩)
              | fail)
            refine bodyPost_ret (v := .bool false) (by simp [results, Try.results28, go_sem]) rfl ⟨by rw [HF.out], hBw.trans ((Below.refl _ _).alloc hBw.size _)⟩
    · obtain rfl : k = x.er.length := by omega
      have HF := Lib.hid (HEN2.out HP.out)
      generalize (x.hb.any fun s => !habV s) = ha at *
      go_wp2_with (first
        | (go_at_call 45; refine (H45.out _ (HFI.out _ hBw)).mono ?_; rintro e w1 ⟨rfl, hB1⟩)
        | fail)
      refine bodyPost_ret (v := .bool (!ha)) (by simp [results, Try.results28, go_sem]) rfl ⟨by rw [HF.out], hBw.trans (hB1.mono hBw.size)⟩
end Go.Proofs.Ytijgfdncocjncaa
