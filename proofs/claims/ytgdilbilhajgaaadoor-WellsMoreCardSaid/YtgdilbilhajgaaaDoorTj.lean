/- WellsMore: the cases joined. -/
import Derived.Test.YtgdilbilhajgaaaDoorTm
namespace Go.Proofs.YtgdilbilhajgaaaDoor
set_option linter.unusedVariables false
set_option linter.unusedSimpArgs false
open Go Go.RowKit

theorem sorted_leJ : ∀ (p : List Nat) (lo N : Nat), p.Pairwise (· < ·) → (∀ k ∈ p, lo ≤ k ∧ k < N) → p.length + lo ≤ N ∨ p = []
  | [], _, _, _, _ => .inr rfl
  | x :: r, lo, N, h, hk => by
    obtain ⟨h1, h2⟩ := List.pairwise_cons.1 h
    have hx := hk x (by simp)
    have := sorted_leJ r (x + 1) N h2 (fun k hk' => ⟨h1 k hk', (hk k (by simp [hk'])).2⟩)
    rcases this with h3 | rfl
    · exact .inl (by simp only [List.length_cons]; omega)
    · exact .inl (by simp; omega)
theorem sorted_lenJ {p : List Nat} {N : Nat} (h : p.Pairwise (· < ·)) (hk : ∀ k ∈ p, k < N) : p.length ≤ N := by
  rcases sorted_leJ p 0 N h (fun k hk' => ⟨Nat.zero_le _, hk k hk'⟩) with h3 | rfl
  · omega
  · simp
theorem sure_monoJ {m : List (Int × Int)} {l : List (Int × Int × Int)} {q : List Nat} {mn : Nat} (hq : ∀ k ∈ q, k < l.length) (h : SureP m l mn q) : SureP m l mn (List.range l.length) := fun x hx => h x (feas_some hq (by rwa [some_all] at hx))
theorem fin_minJ {P : Nat → Prop} {R : Nat → Nat → Prop} (hi : ∀ s, ¬ R s s) (ht : ∀ a b c, R a b → R b c → R a c) : ∀ n : Nat, (∃ s, s < n ∧ P s) → ∃ s, s < n ∧ P s ∧ ∀ t, t < n → P t → ¬ R t s
  | 0, ⟨s, h, _⟩ => by omega
  | n + 1, h => by
    by_cases h1 : ∃ s, s < n ∧ P s
    · obtain ⟨s0, h2, h3, h4⟩ := fin_minJ hi ht n h1
      by_cases h5 : P n ∧ R n s0
      · refine ⟨n, by omega, h5.1, fun t ht' hp hr => ?_⟩
        rcases Nat.lt_succ_iff_lt_or_eq.1 ht' with h6 | rfl
        · exact h4 t h6 hp (ht _ _ _ hr h5.2)
        · exact hi _ hr
      · refine ⟨s0, by omega, h3, fun t ht' hp hr => ?_⟩
        rcases Nat.lt_succ_iff_lt_or_eq.1 ht' with h6 | rfl
        · exact h4 t h6 hp hr
        · exact h5 ⟨hp, hr⟩
    · obtain ⟨s, h2, h3⟩ := h
      have hs : s = n := by
        rcases Nat.lt_succ_iff_lt_or_eq.1 h2 with h6 | rfl
        · exact absurd ⟨s, h6, h3⟩ h1
        · rfl
      subst hs
      refine ⟨s, by omega, h3, fun t ht' hp hr => ?_⟩
      rcases Nat.lt_succ_iff_lt_or_eq.1 ht' with h6 | rfl
      · exact h1 ⟨t, h6, hp⟩
      · exact hi _ hr
theorem isProof_exJ {m : List (Int × Int)} {l : List (Int × Int × Int)} {mn : Nat} (hl : l.length ≤ 12) (h : SureP m l mn (List.range l.length)) : ∃ p, IsProof m l mn p := by
  have hr1 : (List.range l.length).Pairwise (· < ·) := List.pairwise_lt_range
  have hr2 : ∀ k ∈ List.range l.length, k < l.length := fun k hk => List.mem_range.1 hk
  have hb := bits_of hr1 (fun k hk => by have := hr2 k hk; omega)
  obtain ⟨s, hs, hp, hmin⟩ := fin_minJ (P := fun s => SureP m l mn (bitsL s)) (R := fun a b => aheadL (bitsL a) (bitsL b)) (fun s hr => by
      rcases hr with h | ⟨_, h⟩
      · omega
      · exact List.lt_irrefl _ h) (fun a b c h1 h2 => by
      unfold aheadL at *
      rcases h1 with h1 | ⟨h1, h3⟩
      · rcases h2 with h2 | ⟨h2, _⟩ <;> exact .inl (by omega)
      · rcases h2 with h2 | ⟨h2, h4⟩
        · exact .inl (by omega)
        · exact .inr ⟨by omega, List.lt_trans h3 h4⟩) (2 ^ l.length) ⟨ofBits (List.range l.length), ofBits_lt _ hr2, by rw [hb]; exact h⟩
  refine ⟨bitsL s, bitsL_sorted s, bits_lt hs, hp, fun q hq hqk hqs hlt => ?_⟩
  have e := bits_of hq (fun k hk => by have := hqk k hk; omega)
  refine hmin (ofBits q) (ofBits_lt q hqk) ?_ ?_
  · rw [e]; exact hqs
  · rw [e]; exact hlt
set_option maxRecDepth 100000 in
set_option maxHeartbeats 8000000 in
theorem more_great (A B : Option Addr) (c d : Nat) (m : List (Int × Int)) (l : List (Int × Int × Int)) (r : Int × Int × Int) (main wh by_ : Int) (w : World) (hT : TabOk w) (h : greatB m.length l.length 10 = true ∨ 12 ≤ l.length) :
    Calls Tryd.prog 9 #[.slice A m.length c, .slice B l.length d, .agg #[I r.1, I r.2.1, I r.2.2], I main, .int .u8 wh, .int .u8 by_] w fun e w' => e = .returned (.bool true) ∧ Below w.heap.size w w' := by
  have HA : Hid (∀ W, Below w.heap.size w W → Calls Tryd.prog 12 #[] W fun e w' => e = .returned (.bool true) ∧ Below W.heap.size W w') := Lib.hid fun W h => alive12 W (hT.below h)
  have HG : Hid (∀ W, Calls Tryd.prog 11 #[.slice A m.length c, .slice B l.length d, I 10] W fun e w' => e = .returned (.bool (greatB m.length l.length 10)) ∧ W = w') := Lib.hid fun W => great11 A B m.length c l.length d 10 W
  obtain ⟨r0, r1, r2⟩ := r
  have hBx : Below w.heap.size w (w.alloc (.cells #[I r0, I r1, I r2] 42)) := (Below.refl _ _).alloc (Nat.le_refl _) _
  clear hT
  cases hg : greatB m.length l.length 10
  all_goals
    rw [hg] at HG h
    have hlb : Bool.or (greatB m.length l.length 10) (decide ((12 : Int) ≤ (l.length : Int))) = true := by
      rcases h with h | h
      · first | (rw [hg]; rfl) | cases h
      · rw [hg]; simp; try omega
    rw [hg] at hlb
    go_enter Tryd.func9, Tryd.ntmps9
    go_wp2_with (first
      | (go_at_call 11; refine (HG.out _).mono ?_; rintro e w1 ⟨rfl, rfl⟩)
      | (go_at_call 12; refine (HA.out _ hBx).mono ?_; rintro e w2 ⟨rfl, hB2⟩)
      | fail)
    go_ret
    exact ⟨rfl, hBx.trans (hB2.mono hBx.size)⟩
set_option maxRecDepth 100000 in
set_option maxHeartbeats 8000000 in
theorem more_bad (A B : Option Addr) (c d : Nat) (m : List (Int × Int)) (l : List (Int × Int × Int)) (r : Int × Int × Int) (main wh by_ : Int) (ef : Int) (hef : (ef != 0) = true) (w : World) (hT : TabOk w) (hl12 : l.length < 12) (hg : greatB m.length l.length 10 = false)
    (hF : ∀ W, Below w.heap.size w W → Calls Tryd.prog 18 #[.slice A m.length c, .slice B l.length d] W fun e w' => e = .returned (.tuple #[nilS, I ef]) ∧ Below W.heap.size W w') :
    Calls Tryd.prog 9 #[.slice A m.length c, .slice B l.length d, .agg #[I r.1, I r.2.1, I r.2.2], I main, .int .u8 wh, .int .u8 by_] w fun e w' => e = .returned (.bool true) ∧ Below w.heap.size w w' := by
  have HA : Hid (∀ W, Below w.heap.size w W → Calls Tryd.prog 12 #[] W fun e w' => e = .returned (.bool true) ∧ Below W.heap.size W w') := Lib.hid fun W h => alive12 W (hT.below h)
  have HG : Hid (∀ W, Calls Tryd.prog 11 #[.slice A m.length c, .slice B l.length d, I 10] W fun e w' => e = .returned (.bool false) ∧ W = w') := Lib.hid fun W => by
    have := great11 A B m.length c l.length d 10 W
    rwa [hg] at this
  have HF := Lib.hid hF
  obtain ⟨r0, r1, r2⟩ := r
  have hBx : Below w.heap.size w (w.alloc (.cells #[I r0, I r1, I r2] 42)) := (Below.refl _ _).alloc (Nat.le_refl _) _
  have hlb : decide ((12 : Int) ≤ (l.length : Int)) = false := decide_eq_false (by omega)
  clear hT hg hF
  go_enter Tryd.func9, Tryd.ntmps9
  go_wp2_with (first
    | (go_at_call 11; refine (HG.out _).mono ?_; rintro e w1 ⟨rfl, rfl⟩)
    | (go_at_call 18; refine (HF.out _ hBx).mono ?_; rintro e w2 ⟨rfl, hB2⟩; have hBw := hBx.trans (hB2.mono hBx.size))
    | (go_at_call 12; refine (HA.out _ hBw).mono ?_; rintro e w3 ⟨rfl, hB3⟩)
    | fail)
  go_ret
  exact ⟨rfl, hBw.trans (hB3.mono hBw.size)⟩
/-- What Proof answers: how many, and which error. -/
def PrN (n : Nat) (u : Int) (W : World) (e : Ending) (w' : World) : Prop := ∃ A' c', e = .returned (.tuple #[.slice A' n c', I u]) ∧ Below W.heap.size W w'
open Classical in
theorem proofN {m : List (Int × Int)} {l : List (Int × Int × Int)} {main : Int} (hok : InOk m l) (hf : ∃ x, Feas m l x) : ∃ (n : Nat) (u : Int), n ≤ 12 ∧ (∀ W e w', ProofPost m l main W e w' → PrN n u W e w') ∧
    ((u = 2 ∧ inB main 0 ((m.length : Int) - 1) = false) ∨ (u = 4 ∧ inB main 0 ((m.length : Int) - 1) = true ∧ ¬ SureP m l main.toNat (List.range l.length)) ∨ (u = 0 ∧ inB main 0 ((m.length : Int) - 1) = true ∧ ∃ p, IsProof m l main.toNat p ∧ p.length = n)) := by
  cases hin : inB main 0 ((m.length : Int) - 1)
  · refine ⟨0, 2, by omega, ?_, .inl ⟨rfl, rfl⟩⟩
    rintro W e w' ⟨hB, ⟨h, _⟩ | ⟨_, _, rfl⟩ | ⟨_, h, _⟩ | ⟨_, h, _⟩ | ⟨_, h, _⟩⟩
    · exact absurd hok h
    · exact ⟨_, _, rfl, hB⟩
    all_goals (rw [hin] at h; cases h)
  · by_cases hs : SureP m l main.toNat (List.range l.length)
    · by_cases hex : ∃ p, IsProof m l main.toNat p
      · obtain ⟨p, hp⟩ := hex
        have hpl : p.length ≤ l.length := sorted_lenJ hp.sorted hp.lt
        refine ⟨p.length, 0, by have := hok.2.1; omega, ?_, .inr (.inr ⟨rfl, rfl, p, hp, rfl⟩)⟩
        rintro W e w' ⟨hB, ⟨h, _⟩ | ⟨_, h, _⟩ | ⟨_, _, h, _⟩ | ⟨_, _, _, h, _⟩ | ⟨_, _, _, v, p', rfl, ho, hp'⟩⟩
        · exact absurd hok h
        · rw [hin] at h; cases h
        · exact absurd hf h
        · exact absurd hs h
        · obtain rfl : p' = p := IsProof.eq hp' hp
          have e1 : (p'.map fun k : Nat => I (k : Int)) = (p'.map fun k : Nat => (k : Int)).map I := by simp
          rw [e1] at ho
          obtain ⟨A', c', hv, _⟩ := ints_ownN ho (by simp)
          exact ⟨A', c', by rw [hv]; simp, hB⟩
      · refine ⟨0, 0, by omega, ?_, .inr (.inr ⟨rfl, rfl, absurd (isProof_exJ hok.2.1 hs) hex⟩)⟩
        rintro W e w' ⟨hB, ⟨h, _⟩ | ⟨_, h, _⟩ | ⟨_, _, h, _⟩ | ⟨_, _, _, h, _⟩ | ⟨_, _, _, v, p', rfl, ho, hp'⟩⟩
        · exact absurd hok h
        · rw [hin] at h; cases h
        · exact absurd hf h
        · exact absurd hs h
        · exact absurd ⟨p', hp'⟩ hex
    · refine ⟨0, 4, by omega, ?_, .inr (.inl ⟨rfl, rfl, hs⟩)⟩
      rintro W e w' ⟨hB, ⟨h, _⟩ | ⟨_, h, _⟩ | ⟨_, _, h, _⟩ | ⟨_, _, _, _, rfl⟩ | ⟨_, _, _, v, p', _, _, hp'⟩⟩
      · exact absurd hok h
      · rw [hin] at h; cases h
      · exact absurd hf h
      · exact ⟨_, _, rfl, hB⟩
      · exact absurd (sure_monoJ hp'.lt hp'.sure) hs
theorem total_nonneg (m : List (Int × Int)) (x : Nat → Int) : 0 ≤ totalW m x := by
  have h := sumL_le (f := fun _ => 0) (g := wellOver m x) (l := List.range m.length) (fun k _ => by unfold wellOver; split <;> omega)
  rw [sumL_zero] at h
  exact h
theorem excess_ex {m : List (Int × Int)} {l : List (Int × Int × Int)} : ∀ (n : Nat) (x : Nat → Int), Feas m l x → (totalW m x).toNat ≤ n → ∃ v, IsExcess m l v := by
  intro n
  induction n with
  | zero =>
    intro x hx hn
    refine ⟨_, ⟨x, hx, rfl⟩, fun y hy => ?_⟩
    have := total_nonneg m y
    have := total_nonneg m x
    omega
  | succ n ih =>
    intro x hx hn
    by_cases h : ∃ y, Feas m l y ∧ totalW m y < totalW m x
    · obtain ⟨y, hy, hlt⟩ := h
      have := total_nonneg m y
      exact ih y hy (by omega)
    · refine ⟨_, ⟨x, hx, rfl⟩, fun y hy => ?_⟩
      rcases Int.lt_or_le (totalW m y) (totalW m x) with h1 | h1
      · exact absurd ⟨y, hy, h1⟩ h
      · exact h1
theorem wmore_any (A : Option Addr) (c : Nat) (m : List (Int × Int)) (B : Option Addr) (d : Nat) (l : List (Int × Int × Int)) (r : Int × Int × Int) (main wh by_ : Int) (w : World) (hT : TabOk w) (hm : Pairs w w.heap.size A m) (hml : m.length ≤ 9223372036854775807) (hl : Threes w w.heap.size B l) (hll : l.length ≤ 9223372036854775807)
    (_hr : True) (_hn0 : -9223372036854775808 ≤ main) (_hn1 : main ≤ 9223372036854775807) (hw0 : 0 ≤ wh) (hw1 : wh ≤ 255) (hb0 : 0 ≤ by_) (hb1 : by_ ≤ 255) :
    Calls Tryd.prog 9 #[.slice A m.length c, .slice B l.length d, .agg #[I r.1, I r.2.1, I r.2.2], I main, .int .u8 wh, .int .u8 by_] w fun e w' => e = .returned (.bool true) ∧ Below w.heap.size w w' := by
  by_cases hbig : greatB m.length l.length 10 = true ∨ 12 ≤ l.length
  · exact more_great A B c d m l r main wh by_ w hT hbig
  have hg : greatB m.length l.length 10 = false := by
    cases h : greatB m.length l.length 10
    · rfl
    · exact absurd (.inl h) hbig
  have hl12 : l.length < 12 := by
    rcases Nat.lt_or_ge l.length 12 with h | h
    · exact h
    · exact absurd (.inr h) hbig
  have hFP : ∀ W, Below w.heap.size w W → Calls Tryd.prog 18 #[.slice A m.length c, .slice B l.length d] W (FlowsPost m l W) := fun W h => flows18 A B c d m l W ((hm.below h).more h.size) hml ((hl.below h).more h.size) hll
  by_cases hok : InOk m l
  case neg =>
    refine more_bad A B c d m l r main wh by_ 1 (by decide) w hT hl12 hg fun W h => (hFP W h).mono ?_
    rintro e w' ⟨hB, ⟨_, rfl⟩ | ⟨h, _⟩ | ⟨h, _⟩⟩
    · exact ⟨rfl, hB⟩
    all_goals exact absurd h hok
  by_cases hf : ∃ x, Feas m l x
  case neg =>
    refine more_bad A B c d m l r main wh by_ 6 (by decide) w hT hl12 hg fun W h => (hFP W h).mono ?_
    rintro e w' ⟨hB, ⟨h, _⟩ | ⟨_, _, rfl⟩ | ⟨_, v, sl, _, _, _, h⟩⟩
    · exact absurd hok h
    · exact ⟨rfl, hB⟩
    · exact absurd h.some hf
  by_cases hsx : ∃ sl : List (Int × Int), sl.length = m.length ∧ IsSpans m l (sF sl)
  case neg =>
    refine more_bad A B c d m l r main wh by_ 1 (by decide) w hT hl12 hg fun W h => (hFP W h).mono ?_
    rintro e w' ⟨hB, ⟨h, _⟩ | ⟨_, h, _⟩ | ⟨_, v, sl, _, _, h1, h⟩⟩
    · exact absurd hok h
    · exact absurd hf h
    · exact absurd ⟨sl, h1, h⟩ hsx
  obtain ⟨sl, hsl, hsp⟩ := hsx
  have hm1 := hok.1.pos
  have hm16 := hok.1.le
  have hzz : 0 ≤ wh % (m.length : Int) ∧ wh % (m.length : Int) < (m.length : Int) := ⟨Int.emod_nonneg _ (by omega), Int.emod_lt_of_pos _ (by omega)⟩
  obtain ⟨z, hz⟩ : ∃ z : Nat, wh % (m.length : Int) = (z : Int) := ⟨(wh % (m.length : Int)).toNat, by omega⟩
  have hzm : z < m.length := by omega
  have hlz := hok.1.lim z hzm
  have hul : 0 ≤ min 1600 (limW m z + by_) ∧ min 1600 (limW m z + by_) ≤ 1600 ∧ limW m z ≤ min 1600 (limW m z + by_) := by omega
  have hokR : InOk (raiseW m z (min 1600 (limW m z + by_))) l := raise_in hzm hok ⟨hul.1, hul.2.1⟩
  have hfR : ∃ x, Feas (raiseW m z (min 1600 (limW m z + by_))) l x := by
    obtain ⟨x, hx⟩ := hf
    exact ⟨x, (raise_feas hzm).2 hx⟩
  obtain ⟨x0, hx0⟩ := hf
  obtain ⟨n0, hn0⟩ := excess_ex _ x0 hx0 (Nat.le_refl _)
  have hf : ∃ x, Feas m l x := ⟨x0, hx0⟩
  obtain ⟨n2, hn2⟩ : ∃ v, IsExcess (raiseW m z (min 1600 (limW m z + by_))) l v := by
    obtain ⟨x, hx⟩ := hfR
    exact excess_ex _ x hx (Nat.le_refl _)
  have hn02 := raise_excess hzm hul.2.2 hn0 hn2
  obtain ⟨np, u, hnp, hP1, hu⟩ := proofN (main := main) hok hf
  obtain ⟨nq, v, hnq, hP2, hv⟩ := proofN (main := main) hokR hfR
  rw [raise_len] at hv
  have hcomb : (u = 2 ∧ v = 2) ∨ (u = 4 ∧ v = 4) ∨ (u = 0 ∧ v = 4) ∨ (u = 0 ∧ v = 0 ∧ np ≤ nq) := by
    rcases hu with ⟨h1, h2⟩ | ⟨h1, h2, h3⟩ | ⟨h1, h2, p, h3, h4⟩
    · rcases hv with ⟨g1, g2⟩ | ⟨g1, g2, _⟩ | ⟨g1, g2, _⟩
      · exact .inl ⟨h1, g1⟩
      all_goals (rw [h2] at g2; cases g2)
    · rcases hv with ⟨g1, g2⟩ | ⟨g1, g2, g3⟩ | ⟨g1, g2, q, g3, g4⟩
      · rw [h2] at g2; cases g2
      · exact .inr (.inl ⟨h1, g1⟩)
      · exact absurd (sure_monoJ g3.lt (raise_sure hzm hul.2.2 g3.sure)) h3
    · rcases hv with ⟨g1, g2⟩ | ⟨g1, g2, g3⟩ | ⟨g1, g2, q, g3, g4⟩
      · rw [h2] at g2; cases g2
      · exact .inr (.inr (.inl ⟨h1, g1⟩))
      · exact .inr (.inr (.inr ⟨h1, g1, by rw [← h4, ← g4]; exact raise_proof hzm hul.2.2 h3 g3⟩))
  have hA : ∀ W, Below w.heap.size w W → Calls Tryd.prog 12 #[] W fun e w' => e = .returned (.bool true) ∧ Below W.heap.size W w' := fun W h => alive12 W (hT.below h)
  have hG : ∀ W, Calls Tryd.prog 11 #[.slice A m.length c, .slice B l.length d, I 10] W fun e w' => e = .returned (.bool false) ∧ W = w' := fun W => by
    have := great11 A B m.length c l.length d 10 W
    rwa [hg] at this
  have flOut : ∀ {l' : List (Int × Int × Int)} {tl : List (Int × Int)} {W : World} {e : Ending} {w' : World}, InOk m l' → tl.length = m.length → IsSpans m l' (sF tl) → FlowsPost m l' W e w' → ∃ A' c', e = .returned (.tuple #[.slice A' m.length c', I 0]) ∧ Pairs w' w'.heap.size A' tl ∧ Below W.heap.size W w' := by
    rintro l' tl W e w' h1 h2 h3 ⟨hB, ⟨h, _⟩ | ⟨_, h, _⟩ | ⟨_, v, sl', rfl, ho, hsl', hsp'⟩⟩
    · exact absurd h1 h
    · exact absurd h3.some h
    · obtain rfl : sl' = tl := list_eq_sF (by omega) fun i hi => hsp'.eq h3 (by omega)
      obtain ⟨A', c', rfl, hp⟩ := pairs_ownN ho hsl'
      exact ⟨A', c', by rw [h2], hp, hB⟩
  have ovOut : ∀ {l' : List (Int × Int × Int)} {tl : List (Int × Int)} {W : World} {e : Ending} {w' : World}, InOk m l' → IsSpans m l' (sF tl) → OverPost m l' W e w' → ∃ A' c' v2, e = .returned (.tuple #[.slice A' (surelyL m (sF tl)).length c', v2, I 0]) ∧ Ints w' w'.heap.size A' (surelyL m (sF tl)) ∧ Below W.heap.size W w' := by
    rintro l' tl W e w' h1 h3 ⟨hB, ⟨h, _⟩ | ⟨_, h, _⟩ | ⟨_, v1, v2, dd, rfl, o1, o2, _, hsp'⟩⟩
    · exact absurd h1 h
    · exact absurd h3.some h
    · have e1 := (surelyL_congr (m := m) (d := dd) (d' := sF tl) fun i hi => hsp'.eq h3 hi).1
      rw [e1] at o1
      obtain ⟨A1, c1, rfl, i1⟩ := ints_ownN o1 rfl
      exact ⟨A1, c1, v2, rfl, i1, hB⟩
  have exOut : ∀ {m' : List (Int × Int)} {l' : List (Int × Int × Int)} {n : Int} {W : World} {e : Ending} {w' : World}, InOk m' l' → IsExcess m' l' n → ExcPost m' l' W e w' → e = .returned (.tuple #[I n, I 0]) ∧ Below W.heap.size W w' := by
    rintro m' l' n W e w' h1 h3 ⟨hB, ⟨h, _⟩ | ⟨_, h, _⟩ | ⟨_, v, hv, rfl⟩⟩
    · exact absurd h1 h
    · obtain ⟨⟨x, hx, _⟩, _⟩ := h3
      exact absurd ⟨x, hx⟩ h
    · obtain rfl : v = n := hv.eq h3
      exact ⟨rfl, hB⟩
  have hF1 := fun W (h : Below w.heap.size w W) => (hFP W h).mono (fun e w' hp => flOut hok hsl hsp hp)
  have hMA : ∀ W, Below w.heap.size w W → Calls Tryd.prog 19 #[.slice A m.length c] W fun e w' => e = .returned (.bool true) ∧ Below W.heap.size W w' := fun W h => (mains19 A c m W ((hm.below h).more h.size) hml).mono fun e w' ⟨h, h'⟩ => ⟨by rw [h, mOkB_iff.2 hok.1], h'⟩
  have hO1 := fun W (h : Below w.heap.size w W) => (over23 A B c d m l W ((hm.below h).more h.size) hml ((hl.below h).more h.size) hll).mono (fun e w' hp => ovOut hok hsp hp)
  have hX1 := fun W (h : Below w.heap.size w W) => (excess15 A B c d m l W ((hm.below h).more h.size) hml ((hl.below h).more h.size) hll).mono (fun e w' hp => exOut hok hn0 hp)
  have hX3 : ∀ W H ch, Below w.heap.size w W → Pairs W W.heap.size H (raiseW m z (min 1600 (limW m z + by_))) → Calls Tryd.prog 15 #[.slice H m.length ch, .slice B l.length d] W fun e w' => e = .returned (.tuple #[I n2, I 0]) ∧ Below W.heap.size W w' := fun W H ch h hH => by
    have := (excess15 H B ch d _ l W hH (by rw [raise_len]; exact hml) ((hl.below h).more h.size) hll).mono (fun e w' hp => exOut hokR hn2 hp)
    rwa [raise_len] at this
  have hP1' := fun W (h : Below w.heap.size w W) => (proof13 A B c d main m l W ((hm.below h).more h.size) hml ((hl.below h).more h.size) hll (hT.below h)).mono (fun e w' hp => hP1 W e w' hp)
  have hP2' : ∀ W H ch, Below w.heap.size w W → Pairs W W.heap.size H (raiseW m z (min 1600 (limW m z + by_))) → Calls Tryd.prog 13 #[.slice H m.length ch, .slice B l.length d, I main] W fun e w' => ∃ A' c', e = .returned (.tuple #[.slice A' nq c', I v]) ∧ Below W.heap.size W w' := fun W H ch h hH => by
    have := (proof13 H B ch d main _ l W hH (by rw [raise_len]; exact hml) ((hl.below h).more h.size) hll (hT.below h)).mono (fun e w' hp => hP2 W e w' hp)
    rwa [raise_len] at this
  have hsl100 := (surelyL_le m (sF sl)).1
  have hall : (l ++ [r]).length = l.length + 1 := by simp
  have hF2P : ∀ W B' c', Below w.heap.size w W → Threes W W.heap.size B' (l ++ [r]) → Calls Tryd.prog 18 #[.slice A m.length c, .slice B' (l.length + 1) c'] W (FlowsPost m (l ++ [r]) W) := fun W B' c' h hB' => by
    have := flows18 A B' c c' m (l ++ [r]) W ((hm.below h).more h.size) hml hB' (by omega)
    rwa [hall] at this
  by_cases hgood : InOk m (l ++ [r]) ∧ (∃ x, Feas m (l ++ [r]) x) ∧ ∃ tl : List (Int × Int), tl.length = m.length ∧ IsSpans m (l ++ [r]) (sF tl)
  · obtain ⟨hok2, ⟨x2, hx2⟩, tl, htl, htp⟩ := hgood
    obtain ⟨n1, hn1⟩ := excess_ex _ x2 hx2 (Nat.le_refl _)
    have htl100 := (surelyL_le m (sF tl)).1
    refine more_ok A B c d m l r main wh by_ z sl tl (surelyL m (sF sl)) (surelyL m (sF tl)) n0 n1 n2 u v np nq w hA hG hF1 hMA hO1 hX1 (fun W B' c' h hB' => (hF2P W B' c' h hB').mono fun e w' hp => flOut hok2 htl htp hp) (fun W B' c' h hB' => ?_) (fun W B' c' h hB' => ?_)
      (excess_more hn0 hn1) (surely_len hsp htp) (surely_sorted m _) (surely_sorted m _) (surely_sub hsp htp) htl (by omega) (fun i hi => spans_more hsp htp hi) hX3 hP1' hP2' hcomb hn02 hz hzm hlz hsl hm1 hm16 hl12 (by omega) hw0 hw1 hb0 hb1 hm hl (by omega) (by omega)
    · have := (over23 A B' c c' m (l ++ [r]) W ((hm.below h).more h.size) hml hB' (by omega)).mono (fun e w' hp => ovOut hok2 htp hp)
      rwa [hall] at this
    · have := (excess15 A B' c c' m (l ++ [r]) W ((hm.below h).more h.size) hml hB' (by omega)).mono (fun e w' hp => exOut hok2 hn1 hp)
      rwa [hall] at this
  · have key : ∃ eh : Int, (eh = 1 ∨ eh = 6) ∧ ∀ W e w', FlowsPost m (l ++ [r]) W e w' → e = .returned (.tuple #[nilS, I eh]) ∧ Below W.heap.size W w' := by
      by_cases hok2 : InOk m (l ++ [r])
      · by_cases hf2 : ∃ x, Feas m (l ++ [r]) x
        · refine ⟨1, .inl rfl, ?_⟩
          rintro W e w' ⟨hB, ⟨h, _⟩ | ⟨_, h, _⟩ | ⟨_, v, tl, _, _, h1, h⟩⟩
          · exact absurd hok2 h
          · exact absurd hf2 h
          · exact absurd ⟨hok2, hf2, tl, h1, h⟩ hgood
        · refine ⟨6, .inr rfl, ?_⟩
          rintro W e w' ⟨hB, ⟨h, _⟩ | ⟨_, _, rfl⟩ | ⟨_, v, tl, _, _, h1, h⟩⟩
          · exact absurd hok2 h
          · exact ⟨rfl, hB⟩
          · exact absurd h.some hf2
      · refine ⟨1, .inl rfl, ?_⟩
        rintro W e w' ⟨hB, ⟨_, rfl⟩ | ⟨h, _⟩ | ⟨h, _⟩⟩
        · exact ⟨rfl, hB⟩
        all_goals exact absurd h hok2
    obtain ⟨eh, heh, hkey⟩ := key
    exact more_err A B c d m l r main wh by_ z sl (surelyL m (sF sl)) n0 n2 u v np nq w eh hA hG hF1 hMA hO1 hX1 heh (fun W B' c' h hB' => (hF2P W B' c' h hB').mono fun e w' hp => hkey W e w' hp) hX3 hP1' hP2' hcomb hn02 hz hzm hlz hsl hm1 hm16 hl12 (by omega) hw0 hw1 hb0 hb1 hm hl (by omega) (by omega)
end Go.Proofs.YtgdilbilhajgaaaDoor
