/- The fewest sources of a spring, of the program. -/
import Derived.Test.YtijgfdncocjncaaS10
import Derived.Laws.EntriesVeiled
namespace Go.Proofs.Ytijgfdncocjncaa
set_option linter.unusedVariables false
set_option linter.unusedSimpArgs false
open Go Go.RowKit

theorem flat_two {α : Type} (p q : α → Value) : ∀ (l : List α) (k : Nat) (h : k < l.length), (l.flatMap fun a => [p a, q a])[k * 2]? = some (p l[k]) ∧ (l.flatMap fun a => [p a, q a])[k * 2 + 1]? = some (q l[k])
  | [], k, h => by simp at h
  | s :: l, 0, _ => by simp
  | s :: l, k + 1, h => by
    have ih := flat_two p q l k (by simpa using h)
    have e1 : (k + 1) * 2 = k * 2 + 2 := by omega
    rw [e1]
    simpa using ih
theorem flatS_get (x : Wat) (t k : Nat) (h : k < (srcs x t).length) : (flatS x t (List.finRange (srcs x t).length))[k * 2]? = some (I ((srcs x t)[k] : Nat)) ∧ (flatS x t (List.finRange (srcs x t).length))[k * 2 + 1]? = some (U64 (setN (EE x t (srcs x t)[k]))) := by
  have h2 := flat_two (fun y : Fin (srcs x t).length => I ((srcs x t)[y] : Nat)) (fun y => U64 (setN (expP x (srcs x t)[y] t))) (List.finRange (srcs x t).length) k (by simpa using h)
  have e : EE x t (srcs x t)[k] = expP x (srcs x t)[k] t := rfl
  rw [e]
  unfold flatS
  simpa using h2
theorem src_form {x : Wat} {t base g0 : Nat} {v : Value} {W : World} (h : W.ownsRow base 83 2 v (srcs x t).length (flatS x t (List.finRange (srcs x t).length))) (hg : g0 < W.heap.size) :
    ∃ R cap G, v = .slice R (srcs x t).length cap ∧ (srcs x t).length ≤ cap ∧ (0 < (srcs x t).length → R = some ⟨G, 0, none⟩) ∧ (G = g0 ∨ base ≤ G) ∧ G < W.heap.size ∧
      ∀ k (h : k < (srcs x t).length), W.cell? ⟨G, k * 2, none⟩ = some (I ((srcs x t)[k] : Nat)) ∧ W.cell? ⟨G, k * 2 + 1, none⟩ = some (U64 (setN (EE x t (srcs x t)[k]))) := by
  rcases own_formS h with ⟨rfl, h0⟩ | ⟨g, cap, rfl, h1, h2⟩
  · exact ⟨none, 0, g0, by rw [h0], by omega, fun h => by omega, .inl rfl, hg, fun k hk => by omega⟩
  · refine ⟨some ⟨g, 0, none⟩, cap, g, rfl, ?_, fun _ => rfl, .inr h1, h2, fun k hk => ?_⟩
    · rcases h.2 with ⟨h, _⟩ | ⟨_, _, _, h, _, _, h3, _⟩
      · cases h
      · cases h; exact h3
    · obtain ⟨e1, e2⟩ := flatS_get x t k hk
      exact ⟨(h.cellAt (k * 2) (by omega)).trans e1, (h.cellAt (k * 2 + 1) (by omega)).trans e2⟩
set_option maxRecDepth 100000 in
set_option maxHeartbeats 4000000 in
theorem fewest38 (x : Wat) (P t : Nat) (A B : Option Addr) (c d : Nat) (D : Option Addr) (cs : Nat) (w : World) (hx : WatOk x) (hR : Run w P x A B c d D cs) (ht : t < x.hb.length) (m : List Nat) (hm : fewT x t = some m) :
    Calls Try.prog 38 #[.pointer (some ⟨P, 0, none⟩), I t] w fun e w' => ∃ A' c', e = .returned (.slice A' m.length c') ∧ Twos w' w'.heap.size A' (lnk t m) ∧ Below w.heap.size w w' := by
  have hn6 : x.hb.length ≤ 6 := hx.n6
  have hs6 : (srcs x t).length ≤ 6 := Nat.le_trans (srcs_len x t) hn6
  have HRR : Hid (∀ W, Below w.heap.size w W → Run W P x A B c d D cs) := Lib.hid fun W hB => hR.call hB
  have H42 : Hid (∀ W, Below w.heap.size w W → Calls Try.prog 42 #[.pointer (some ⟨P, 0, none⟩), I t] W fun e w' => e = .returned (U64 (setN (needP x t))) ∧ Below W.heap.size W w') := Lib.hid fun W hW => needs42 x P t A B c d D cs W hx (hR.call hW) ht
  have H51 : Hid (∀ W N Bp Bt, Below w.heap.size w W → SrcAt W N Bp Bt P t → Calls Try.prog 51 #[.func (.func 57) #[] #[.pointer (some ⟨Bp, 0, none⟩), .pointer (some ⟨Bt, 0, none⟩)]] W fun e w' =>
      ∃ v, e = .returned v ∧ w'.ownsRow W.heap.size 83 2 v (srcs x t).length (flatS x t (List.finRange (srcs x t).length)) ∧ Below W.heap.size W w') := Lib.hid fun W N Bp Bt hW hS => collect51 x P t A B c d D cs w W hx hR ht hW N Bp Bt hS
  have HFT : Hid (fewT x t = (List.range ((srcs x t).length + 1)).findSome? fun c => tryF (EE x t) (srcs x t) (needP x t) c) := Lib.hid (fewT_try (x := x) hx.m64 t)
  have HFM := Lib.hid hm
  have hPz := hR.lt
  clear hR hx hm
  have HB0 : Hid (Below w.heap.size w ((w.alloc (.cells #[I t] 3)).alloc (.cells #[.slice none 0 0] 74))) := Lib.hid (by (repeat' (first | assumption | exact Below.refl _ _ | refine Below.drew ?_ | refine below_drewN ?_ _ | refine Below.setCell ?_ (by first | omega | (simp; done) | (simp; omega)) _ | refine Below.alloc ?_ (by first | omega | (simp; done) | (simp; omega)) _ | refine Below.trans ?_ (Below.mono (by assumption) (by first | omega | (simp; done) | (simp; omega))))))
  have HZ0 : Hid (((w.alloc (.cells #[I t] 3)).alloc (.cells #[.slice none 0 0] 74)).heap.size = w.heap.size + 2) := Lib.hid (by simp)
  have HT0 : Hid (Boxed ((w.alloc (.cells #[I t] 3)).alloc (.cells #[.slice none 0 0] 74)) w.heap.size 3 (I t)) := Lib.hid ((Boxed.new w 3 (I t)).alloc _)
  have HV0 : Hid (Boxed ((w.alloc (.cells #[I t] 3)).alloc (.cells #[.slice none 0 0] 74)) (w.heap.size + 1) 74 (.slice none 0 0)) := Lib.hid (by have := Boxed.new (w.alloc (.cells #[I t] 3)) 74 (.slice none 0 0); simpa only [World.size_alloc] using this)
  go_enter Try.func38, Try.ntmps38
  go_wp2_with (fail)
  generalize (w.alloc (.cells #[I t] 3)).alloc (.cells #[.slice none 0 0] 74) = w0 at *
  have t0 := HT0.out.cell
  have hz0 := HZ0.out
  go_wp2_with (first
    | (go_at_call 41; refine (sources41 P t _).mono ?_; rintro e w1 ⟨Bp, Bt, rfl, hsr, hB1⟩; have HB1 := Lib.hid (HB0.out.trans (hB1.mono (by omega))))
    | (go_at_call 51; refine (H51.out _ _ _ _ HB1.out hsr).mono ?_; rintro e w3 ⟨v3, rfl, hrow, hB3⟩; obtain ⟨R, cap, G, rfl, hcap, hRG, hG1, hG2, hsrc⟩ := src_form (g0 := w.heap.size) hrow (by have := hB3.size; have := hB1.size; omega))
    | fail)
  have hz1 := hB1.size
  have hz3 := hB3.size
  have hzz : w.heap.size + 2 ≤ w3.heap.size := by omega
  have hbw3 : Below w.heap.size w w3 := HB1.out.trans (hB3.mono (by omega))
  have HT3 := (HT0.out.kept (grown_of_below hB1) (by simp)).kept (grown_of_below hB3) (by simp)
  have HV3 := (HV0.out.kept (grown_of_below hB1) (by simp)).kept (grown_of_below hB3) (by simp)
  obtain ⟨n, hn⟩ : ∃ n, (srcs x t).length = n := ⟨_, rfl⟩
  obtain ⟨W5, hW5⟩ : ∃ W5, W5 = (w3.alloc (.cells #[.slice none 0 0] 74)).alloc (.cells #[.func (.func 52) #[] #[.pointer (some ⟨w3.heap.size, 0, none⟩), .pointer (some ⟨w.heap.size + 1, 0, none⟩), .pointer (some ⟨w.heap.size, 0, none⟩), .pointer (some ⟨w3.heap.size + 1, 0, none⟩)]] 99) := ⟨_, rfl⟩
  have hz5 : W5.heap.size = w3.heap.size + 2 := by rw [hW5]; simp
  have hb5 : Below w3.heap.size w3 W5 := by rw [hW5]; (repeat' (first | assumption | exact Below.refl _ _ | refine Below.drew ?_ | refine below_drewN ?_ _ | refine Below.setCell ?_ (by first | omega | (simp; done) | (simp; omega)) _ | refine Below.alloc ?_ (by first | omega | (simp; done) | (simp; omega)) _ | refine Below.trans ?_ (Below.mono (by assumption) (by first | omega | (simp; done) | (simp; omega)))))
  have HO5 : Hid (∃ v, Boxed W5 w3.heap.size 74 v ∧ W5.ownsRow (w3.heap.size + 2) 84 2 v ([] : List Nat).length (flat2 (lnk t []))) := Lib.hid ⟨_, by rw [hW5]; exact (Boxed.new w3 74 _).alloc _, World.ownsRow_nil _ _ _ _⟩
  have HV5 : Hid (∃ vb, Boxed W5 (w.heap.size + 1) 74 vb) := Lib.hid ⟨_, HV3.kept (grown_of_below hb5) (by simp)⟩
  have HC5 : Hid (TryC W5 x t G w3.heap.size (w.heap.size + 1) w.heap.size (w3.heap.size + 1) (w3.heap.size + 2)) := Lib.hid {
    z := by omega
    lt := ⟨by omega, by omega, by omega, by omega, by omega⟩
    ne := ⟨by omega, by omega, by omega, by omega, by omega, by omega, by omega⟩
    tb := (HT3.kept (grown_of_below hb5) (by simp)).cell
    yb := by rw [hW5]; simp [go_sem]
    src := fun k h => ⟨(hb5.cell (p := ⟨G, _, none⟩) hG2).trans (hsrc k h).1, (hb5.cell (p := ⟨G, _, none⟩) hG2).trans (hsrc k h).2⟩ }
  have hbw5 : Below w.heap.size w W5 := hbw3.trans (hb5.mono (by omega))
  rw [show World.alloc (World.alloc w3 _) _ = W5 from hW5.symm]
  clear hW5 hrow hsrc HT3 HV3 HT0 HV0 t0 hz0 HZ0 HB0 HB1 H51 hB1 hB3 hsr
  have HTR : Hid (∀ c, TryIs x t G w3.heap.size (w.heap.size + 1) w.heap.size (w3.heap.size + 1) (w3.heap.size + 2) c) := Lib.hid fun c => try52 x t G w3.heap.size (w.heap.size + 1) w.heap.size (w3.heap.size + 1) (w3.heap.size + 2) hs6 c
  have HBF : Hid (∀ W, Frm (w3.heap.size + 2) (SOB w3.heap.size (w.heap.size + 1)) W5 W → Below w.heap.size w W) := Lib.hid fun W h => hbw5.trans (h.below (by omega) (fun k hk hs => by rcases hs with h | h <;> omega))
  rw [hn] at hcap hRG hs6 ⊢
  have h61 : IntKind.i64.wrap ((n : Int) + 1) = (n : Int) + 1 := IntWalk.i64_in _ (by omega)
  go_loopw [17] (fun s17 wr => ∃ k : Nat, k ≤ n + 1 ∧ s17 = I k ∧ Hid (Frm (w3.heap.size + 2) (SOB w3.heap.size (w.heap.size + 1)) W5 wr) ∧ Hid (∃ v, Boxed wr w3.heap.size 74 v ∧ wr.ownsRow (w3.heap.size + 2) 84 2 v ([] : List Nat).length (flat2 (lnk t []))) ∧ Hid (∃ vb, Boxed wr (w.heap.size + 1) 74 vb) ∧ Hid (∀ c, c < k → tryF (EE x t) (srcs x t) (needP x t) c = none)) (fun s _ => n + 1 - (intOf s).toNat)
  case atStart => exact ⟨0, by omega, rfl, Lib.hid (Frm.refl _ _ _), HO5, HV5, Lib.hid fun c h => by omega⟩
  case round =>
    clear HO5 HV5
    obtain ⟨k, hk, rfl, HF, HO, HB, HT⟩ := hrel
    by_cases hlt : k < n + 1
    · have HC := Lib.hid (HC5.out.frm HF.out)
      have t0 := HC.out.tb
      have y0 := HC.out.yb
      have p0 : (0 : Int) ≤ (k : Int) := by omega
      have p1 : (k : Int) < (n : Int) + 1 := by omega
      have H42r := Lib.hid (H42.out _ (HBF.out _ HF.out.drew))
      go_wp2_with (fail)
      refine (wpIn_wide (n := 9)).1 ?_
      refine wpIn_region_plan (Plan.ons [0, 1, 2, 3, 5, 4, 6] .fin) [0, 1, 5] (fun W' => W'.cell? ⟨w3.heap.size + 1, 0, none⟩ = some (.func (.func 52) #[] #[.pointer (some ⟨w3.heap.size, 0, none⟩), .pointer (some ⟨w.heap.size + 1, 0, none⟩), .pointer (some ⟨w.heap.size, 0, none⟩), .pointer (some ⟨w3.heap.size + 1, 0, none⟩)])) [6] rfl (by kernel_rfl) (by kernel_rfl) (fun _ d _ _ _ h => by cases d <;> exact h) y0 ?_
      (refine ordQ_held (.func (.func 52) #[] #[.pointer (some ⟨w3.heap.size, 0, none⟩), .pointer (some ⟨w.heap.size + 1, 0, none⟩), .pointer (some ⟨w.heap.size, 0, none⟩), .pointer (some ⟨w3.heap.size + 1, 0, none⟩)]) rfl rfl rfl rfl (fun W' hC' => ?_) (fun K hK => ?_); (focus (obtain g0 := hC'; go_simp; try exact ⟨rfl, rfl⟩)); go_simp; refine hK _ ?_; clear hK K)
      (refine ordQ_held (.slice R n cap) rfl rfl rfl rfl (fun W' hC' => ?_) (fun K hK => ?_); (focus (obtain g0 := hC'; go_simp; try exact ⟨rfl, rfl⟩)); go_simp; refine hK _ ?_; clear hK K)
      iterate 2 (refine ordQ_li rfl rfl rfl (fun K hK => ?_); go_simp; refine hK _ ?_; clear hK K)
      (refine ordQ_held (I k) rfl rfl rfl rfl (fun W' hC' => ?_) (fun K hK => ?_); (focus (obtain g0 := hC'; go_simp; try exact ⟨rfl, rfl⟩)); go_simp; refine hK _ ?_; clear hK K)
      refine ordQ_hv rfl rfl rfl (fun K hK => ?_)
      gi_wp2_with (first | (refine And.intro trivial ?_; gi_at_call 42; refine (callsIn_wide.2 H42r.out).mono ?_; rintro e w6 ⟨rfl, hB6⟩) | fail)
      have hB6' : Below wr.heap.size wr w6 := (Below.refl _ wr).drew.trans hB6
      refine hK _ _ (fun _ => (hB6'.cell (p := ⟨w3.heap.size + 1, 0, none⟩) (by have := HC.out.z; show w3.heap.size + 1 < _; omega)).trans y0) ?_
      clear hK K
      have HF6 : Hid (Frm (w3.heap.size + 2) (SOB w3.heap.size (w.heap.size + 1)) W5 w6) := Lib.hid (HF.out.then_ hB6' HC.out.z)
      obtain ⟨v, hv, hrow⟩ := HO.out
      obtain ⟨vb, hvb⟩ := HB.out
      have hv6 := hv.kept (grown_of_below hB6') (by simp)
      have hrow6 := hrow.kept (grown_of_below hB6') (by by_cases h : v.ownBlock = none; exact .inl h; exact .inr h)
      have hvb6 := hvb.kept (grown_of_below hB6') (by simp)
      have HT6 := Lib.hid (HTR.out k 0 R cap (needP x t) [] v vb w6 (by omega) (by rw [hn]; omega) (by rw [hn]; intro h; rw [hRG h]; try simp) (by simp; omega) (HC5.out.frm HF6.out) hv6 hrow6 hvb6)
      rw [hn, Nat.sub_zero, List.drop_zero] at HT6
      clear hv hrow hvb hv6 hrow6 hvb6 hB6 hB6' HO HB
      refine ordQ_hv rfl rfl rfl (fun K hK => ?_)
      gi_wp2_with (first | (refine And.intro trivial ?_; gi_at_call 52; refine (callsIn_wide.2 HT6.out).mono ?_; rintro e w7 ⟨rfl, hF7, hP7⟩) | fail)
      refine hK _ _ (fun h => by cases h) ?_
      clear hK K
      refine ordQ_fin ?_
      have HF7 : Hid (Frm (w3.heap.size + 2) (SOB w3.heap.size (w.heap.size + 1)) W5 w7) := Lib.hid (HF6.out.trans hF7)
      have HP7 := Lib.hid hP7
      obtain ⟨o, ho⟩ : ∃ o, tryF (EE x t) (srcs x t) (needP x t) k = o := ⟨_, rfl⟩
      rw [ho] at HP7 ⊢
      have HTO := Lib.hid ho
      clear HT6 hF7 hP7 ho HF6 HF
      cases o with
      | none =>
        obtain ⟨⟨v8, hv8, hr8⟩, vb8, hvb8⟩ := HP7.out
        have HV8 : Hid (∃ v, Boxed w7 w3.heap.size 74 v ∧ w7.ownsRow (w3.heap.size + 2) 84 2 v ([] : List Nat).length (flat2 (lnk t []))) := Lib.hid ⟨v8, hv8, hr8⟩
        have HVB8 : Hid (∃ vb, Boxed w7 (w.heap.size + 1) 74 vb) := Lib.hid ⟨vb8, hvb8⟩
        have HT8 : Hid (∀ c, c < k + 1 → tryF (EE x t) (srcs x t) (needP x t) c = none) := Lib.hid fun c h => by
          rcases Nat.lt_succ_iff_lt_or_eq.1 h with h1 | rfl
          · exact HT.out c h1
          · exact HTO.out
        clear hv8 hr8 hvb8 HP7 HT HTO
        go_wp2_with (fail)
        go_roundw
        case rel => first | exact ⟨k + 1, by omega, by go_num, HF7, HV8, HVB8, HT8⟩ | ((repeat apply Exists.intro); refine ⟨?_, rfl⟩; exact ⟨k + 1, by omega, by go_num, HF7, HV8, HVB8, HT8⟩)
        case measure => first | (simp [intOf]; done) | (simp [intOf]; omega)
      | some m' =>
        have hmm : m' = m := by
          have h1 := HFT.out
          rw [findSome_first (f := fun c => tryF (EE x t) (srcs x t) (needP x t) c) (J := k) (by rw [hn]; exact hlt) HT.out HTO.out, HFM.out] at h1
          exact (Option.some.inj h1).symm
        subst hmm
        obtain ⟨A8, c8, h8, h9, h10⟩ := HP7.out
        rw [List.nil_append] at h8 h9
        have hc8 := h8.cell
        have hf8 := h8.frozen
        have H9 : Hid (Twos (w7.setCell ⟨w.heap.size + 1, 0, none⟩ (.slice A8 m'.length c8)) (w7.setCell ⟨w.heap.size + 1, 0, none⟩ (.slice A8 m'.length c8)).heap.size A8 (lnk t m')) := Lib.hid fun h0 => by
          obtain ⟨b, off, rfl, h1, h2⟩ := h9 h0
          have h3 := h10 b off rfl
          have hg := grownBy_setCell' w7 (w.heap.size + 1) (.slice (some ⟨b, off, none⟩) m'.length c8)
          have hne : some b ≠ some (w.heap.size + 1) := fun e => by injection e with e; omega
          exact ⟨b, off, rfl, by have := hg.size; omega, fun k hk => ⟨(World.cell?_of_block (a := ⟨b, _, none⟩) (hg.block b h1 hne)).trans (h2 k hk).1, (World.cell?_of_block (a := ⟨b, _, none⟩) (hg.block b h1 hne)).trans (h2 k hk).2⟩⟩
        have hc9 := (h8.set (.slice A8 m'.length c8)).cell
        have HB9 : Hid (Below w.heap.size w (w7.setCell ⟨w.heap.size + 1, 0, none⟩ (.slice A8 m'.length c8))) := Lib.hid ((HBF.out _ HF7.out).setCell (p := ⟨w.heap.size + 1, 0, none⟩) (by simp) _)
        clear h8 h9 h10 HP7 HT HTO
        go_wp2_with (fail)
        refine bodyPost_ret (v := .slice A8 m'.length c8) (by simp [results, Try.results38, go_sem, hc9]) rfl ⟨A8, c8, rfl, H9.out, HB9.out⟩
    · obtain rfl : k = n + 1 := by omega
      exfalso
      have h1 := HFT.out
      rw [findSome_never (f := fun c => tryF (EE x t) (srcs x t) (needP x t) c) (fun v hv => HT.out v (by omega)), HFM.out] at h1
      cases h1
end Go.Proofs.Ytijgfdncocjncaa
