/- WellsProof: the cases joined. -/
import Derived.Test.YtgdilbilhajgaaaDoorTq
namespace Go.Proofs.YtgdilbilhajgaaaDoor
set_option linter.unusedVariables false
set_option linter.unusedSimpArgs false
open Go Go.RowKit

set_option maxRecDepth 100000 in
set_option maxHeartbeats 8000000 in
theorem proof_great (A B : Option Addr) (c d : Nat) (m : List (Int × Int)) (l : List (Int × Int × Int)) (main : Int) (set : Int) (w : World) (hm : Pairs w w.heap.size A m) (hl : Threes w w.heap.size B l) (hT : TabOk w) (hg : greatB m.length l.length 24 = true) :
    Calls Tryd.prog 8 #[.slice A m.length c, .slice B l.length d, I main, .int .u16 set] w fun e w' => e = .returned (.bool true) ∧ Below w.heap.size w w' := by
  have HA : Hid (∀ W, TabOk W → Calls Tryd.prog 12 #[] W fun e w' => e = .returned (.bool true) ∧ Below W.heap.size W w') := Lib.hid fun W h => alive12 W h
  have HCE : Hid (∀ W, Below (w.heap.size + 3) (W3 w A B c d m l main) W → BoxesP w A B c d m l main W) := Lib.hid fun W h => boxesP hm hl hT W h
  have HG : Hid (∀ W, Calls Tryd.prog 11 #[.slice A m.length c, .slice B l.length d, I 24] W fun e w' => e = .returned (.bool true) ∧ W = w') := Lib.hid fun W => by
    have := great11 A B m.length c l.length d 24 W
    rwa [hg] at this
  clear hm hl hT hg
  go_enter Tryd.func8, Tryd.ntmps8
  go_wp2_with (first
    | (go_at_call 11; have hW1 : Below (w.heap.size + 3) (W3 w A B c d m l main) (W3 w A B c d m l main) := Below.refl _ _; obtain ⟨⟨a1, a2, a3⟩, b1, b2, b3, b4, b5⟩ := HCE.out _ hW1; have HT1 := Lib.hid b3; clear b1 b2 b3; refine (HG.out _).mono ?_; rintro e w1 ⟨rfl, rfl⟩)
    | (go_at_call 12; refine (HA.out _ HT1.out).mono ?_; rintro e w9 ⟨rfl, hB9⟩)
    | fail)
  go_ret
  exact ⟨rfl, b4.trans (hB9.mono b4.size)⟩
theorem fin_min {P : Nat → Prop} {R : Nat → Nat → Prop} (hi : ∀ s, ¬ R s s) (ht : ∀ a b c, R a b → R b c → R a c) : ∀ n : Nat, (∃ s, s < n ∧ P s) → ∃ s, s < n ∧ P s ∧ ∀ t, t < n → P t → ¬ R t s
  | 0, ⟨s, h, _⟩ => by omega
  | n + 1, h => by
    by_cases h1 : ∃ s, s < n ∧ P s
    · obtain ⟨s0, h2, h3, h4⟩ := fin_min hi ht n h1
      by_cases h5 : P n ∧ R n s0
      · refine ⟨n, by omega, h5.1, fun t ht' hp hr => ?_⟩
        rcases Nat.lt_succ_iff_lt_or_eq.1 ht' with h6 | rfl
        · exact h4 t h6 hp (ht _ _ _ hr h5.2)
        · exact hi _ hr
      · refine ⟨s0, by omega, h3, fun t ht' hp hr => ?_⟩
        rcases Nat.lt_succ_iff_lt_or_eq.1 ht' with h6 | rfl
        · exact h4 t h6 hp hr
        · exact h5 ⟨hp, hr⟩
    · obtain ⟨s, h2, h3⟩ := h
      have hs : s = n := by
        rcases Nat.lt_succ_iff_lt_or_eq.1 h2 with h6 | rfl
        · exact absurd ⟨s, h6, h3⟩ h1
        · rfl
      subst hs
      refine ⟨s, by omega, h3, fun t ht' hp hr => ?_⟩
      rcases Nat.lt_succ_iff_lt_or_eq.1 ht' with h6 | rfl
      · exact h1 ⟨t, h6, hp⟩
      · exact hi _ hr
theorem isProof_ex {m : List (Int × Int)} {l : List (Int × Int × Int)} {mn : Nat} (hl : l.length ≤ 12) (h : SureP m l mn (List.range l.length)) : ∃ p, IsProof m l mn p := by
  have hr1 : (List.range l.length).Pairwise (· < ·) := List.pairwise_lt_range
  have hr2 : ∀ k ∈ List.range l.length, k < l.length := fun k hk => List.mem_range.1 hk
  have hb := bits_of hr1 (fun k hk => by have := hr2 k hk; omega)
  obtain ⟨s, hs, hp, hmin⟩ := fin_min (P := fun s => SureP m l mn (bitsL s)) (R := fun a b => aheadL (bitsL a) (bitsL b)) (fun s hr => by
      rcases hr with h | ⟨_, h⟩
      · omega
      · exact List.lt_irrefl _ h) (fun a b c h1 h2 => by
      unfold aheadL at *
      rcases h1 with h1 | ⟨h1, h3⟩
      · rcases h2 with h2 | ⟨h2, _⟩ <;> exact .inl (by omega)
      · rcases h2 with h2 | ⟨h2, h4⟩
        · exact .inl (by omega)
        · exact .inr ⟨by omega, List.lt_trans h3 h4⟩) (2 ^ l.length) ⟨ofBits (List.range l.length), ofBits_lt _ hr2, by rw [hb]; exact h⟩
  refine ⟨bitsL s, bitsL_sorted s, bits_lt hs, hp, fun q hq hqk hqs hlt => ?_⟩
  have e := bits_of hq (fun k hk => by have := hqk k hk; omega)
  refine hmin (ofBits q) (ofBits_lt q hqk) ?_ ?_
  · rw [e]; exact hqs
  · rw [e]; exact hlt
open Classical in
theorem wproof_any (A : Option Addr) (c : Nat) (m : List (Int × Int)) (B : Option Addr) (d : Nat) (l : List (Int × Int × Int)) (main set : Int) (w : World) (hT : TabOk w) (hm : Pairs w w.heap.size A m) (hml : m.length ≤ 9223372036854775807) (hl : Threes w w.heap.size B l) (hll : l.length ≤ 9223372036854775807)
    (_hn0 : -9223372036854775808 ≤ main) (_hn1 : main ≤ 9223372036854775807) (hs0 : 0 ≤ set) (hs1 : set ≤ 65535) :
    Calls Tryd.prog 8 #[.slice A m.length c, .slice B l.length d, I main, .int .u16 set] w fun e w' => e = .returned (.bool true) ∧ Below w.heap.size w w' := by
  cases hg : greatB m.length l.length 24
  case true => exact proof_great A B c d m l main set w hm hl hT hg
  have hA : ∀ W, TabOk W → Calls Tryd.prog 12 #[] W fun e w' => e = .returned (.bool true) ∧ Below W.heap.size W w' := fun W h => alive12 W h
  have hCE : ∀ W, Below (w.heap.size + 3) (W3 w A B c d m l main) W → BoxesP w A B c d m l main W := fun W h => boxesP hm hl hT W h
  have hG : ∀ W, Calls Tryd.prog 11 #[.slice A m.length c, .slice B l.length d, I 24] W fun e w' => e = .returned (.bool false) ∧ W = w' := fun W => by
    have := great11 A B m.length c l.length d 24 W
    rwa [hg] at this
  have hP : ∀ W, BoxesP w A B c d m l main W → Calls Tryd.prog 13 #[.slice A m.length c, .slice B l.length d, I main] W (ProofPost m l main W) := fun W h => proof13 A B c d main m l W h.2.1 hml h.2.2.1 hll h.2.2.2.1
  have hO : ∀ W, BoxesP w A B c d m l main W → Calls Tryd.prog 23 #[.slice A m.length c, .slice B l.length d] W (OverPost m l W) := fun W h => over23 A B c d m l W h.2.1 hml h.2.2.1 hll
  by_cases hok : InOk m l
  case neg =>
    refine proof_err 1 1 (by decide) (.inl (by decide)) A B c d m l main set w ⟨hA, hCE, hG, fun W h => (hP W h).mono ?_, fun W h => (hO W h).mono ?_⟩
    · rintro e w' ⟨hB, ⟨_, rfl⟩ | ⟨h, _⟩ | ⟨h, _⟩ | ⟨h, _⟩ | ⟨h, _⟩⟩
      · exact ⟨rfl, hB⟩
      all_goals exact absurd h hok
    · rintro e w' ⟨hB, ⟨_, rfl⟩ | ⟨h, _⟩ | ⟨h, _⟩⟩
      · exact ⟨rfl, hB⟩
      all_goals exact absurd h hok
  have hMA : ∀ W, BoxesP w A B c d m l main W → Calls Tryd.prog 19 #[.slice A m.length c] W fun e w' => e = .returned (.bool true) ∧ Below W.heap.size W w' := fun W h => (mains19 A c m W h.2.1 hml).mono fun e w' ⟨h, h'⟩ => ⟨by rw [h, mOkB_iff.2 hok.1], h'⟩
  have hl12 := hok.2.1
  cases hin : inB main 0 ((m.length : Int) - 1)
  · have hPr : ∀ W, BoxesP w A B c d m l main W → Calls Tryd.prog 13 #[.slice A m.length c, .slice B l.length d, I main] W (Pr2 nilS (I 2) W) := fun W h => (hP W h).mono (by
      rintro e w' ⟨hB, ⟨h, _⟩ | ⟨_, _, rfl⟩ | ⟨_, h, _⟩ | ⟨_, h, _⟩ | ⟨_, h, _⟩⟩
      · exact absurd hok h
      · exact ⟨rfl, hB⟩
      all_goals (rw [hin] at h; cases h))
    by_cases hf : ∃ x, Feas m l x
    · have hr : decide (main < 0) = true ∨ decide (main < 0) = false ∧ decide ((m.length : Int) ≤ main) = true := by
        have h1 : ¬ (0 ≤ main ∧ main ≤ (m.length : Int) - 1) := fun h => by rw [inB_true.2 h] at hin; cases hin
        rcases Int.lt_or_le main 0 with h | h
        · exact .inl (decide_eq_true h)
        · exact .inr ⟨decide_eq_false (by omega), decide_eq_true (by omega)⟩
      refine proof_range nilS nilS A B c d m l main hr set w hMA ⟨hA, hCE, hG, hPr, fun W h => (hO W h).mono ?_⟩
      rintro e w' ⟨hB, ⟨h, _⟩ | ⟨_, h, _⟩ | ⟨_, v1, v2, dd, rfl, _⟩⟩
      · exact absurd hok h
      · exact absurd hf h
      · exact ⟨v1, v2, rfl, hB⟩
    · refine proof_err 2 6 (by decide) (.inr ⟨by decide, by decide⟩) A B c d m l main set w ⟨hA, hCE, hG, hPr, fun W h => (hO W h).mono ?_⟩
      rintro e w' ⟨hB, ⟨h, _⟩ | ⟨_, _, rfl⟩ | ⟨_, v1, v2, dd, _, _, _, _, h⟩⟩
      · exact absurd hok h
      · exact ⟨rfl, hB⟩
      · exact absurd h.some hf
  · obtain ⟨h0, h1⟩ := inB_true.1 hin
    by_cases hf : ∃ x, Feas m l x
    case neg =>
      refine proof_err 6 6 (by decide) (.inl (by decide)) A B c d m l main set w ⟨hA, hCE, hG, fun W h => (hP W h).mono ?_, fun W h => (hO W h).mono ?_⟩
      · rintro e w' ⟨hB, ⟨h, _⟩ | ⟨_, h, _⟩ | ⟨_, _, _, rfl⟩ | ⟨_, _, h, _⟩ | ⟨_, _, h, _⟩⟩
        · exact absurd hok h
        · rw [hin] at h; cases h
        · exact ⟨rfl, hB⟩
        all_goals exact absurd h hf
      · rintro e w' ⟨hB, ⟨h, _⟩ | ⟨_, _, rfl⟩ | ⟨_, v1, v2, dd, _, _, _, _, h⟩⟩
        · exact absurd hok h
        · exact ⟨rfl, hB⟩
        · exact absurd h.some hf
    obtain ⟨mn, rfl⟩ : ∃ mn : Nat, main = (mn : Int) := ⟨main.toNat, by omega⟩
    have hmn : mn < m.length := by omega
    have hS : ∀ (Q : Option Addr) (q : List Nat) (cq : Nat) W, BoxesP w A B c d m l mn W → Ints W W.heap.size Q (q.map fun k : Nat => (k : Int)) → q.Pairwise (· < ·) → (∀ k ∈ q, k < l.length) →
        Calls Tryd.prog 30 #[.slice Q q.length cq, .pointer (some ⟨w.heap.size, 0, none⟩), .pointer (some ⟨w.heap.size + 1, 0, none⟩), .pointer (some ⟨w.heap.size + 1 + 1, 0, none⟩)] W fun e w' => e = .returned (.bool (decide (SureP m l mn q))) ∧ Below W.heap.size W w' := fun Q q cq W ⟨⟨e1, e2, e3⟩, hm', hl', _, _, hz⟩ hQ hqs hqk =>
      sure30 w.heap.size (w.heap.size + 1) (w.heap.size + 1 + 1) A B Q c d cq m l q mn W (by omega) (by omega) (by omega) e1 e2 e3 hm' hl' hQ hok hqk (sorted_len hqs hqk) hmn hf
    have hOv : ∀ b, decide (SureP m l mn (List.range l.length)) = b → ∀ W, BoxesP w A B c d m l mn W → Calls Tryd.prog 23 #[.slice A m.length c, .slice B l.length d] W (OvS mn b W) := fun b hb W h => (hO W h).mono (by
      rintro e w' ⟨hB, ⟨h, _⟩ | ⟨_, h, _⟩ | ⟨_, v1, v2, dd, rfl, o1, o2, _, hsp⟩⟩
      · exact absurd hok h
      · exact absurd hf h
      · obtain ⟨A1, c1, rfl, i1⟩ := ints_ownN o1 rfl
        have h3 := surelyL_le m dd
        have := hok.1.le
        have hsp' : IsSpans m (someL l (List.range l.length)) dd := by rw [some_all]; exact hsp
        exact ⟨_, A1, c1, v2, rfl, i1, by omega, by rw [← hb]; simp only [surely_sure hmn hsp'], hB⟩)
    by_cases hsu : SureP m l mn (List.range l.length)
    · -- a proof there is
      have hex : ∃ p, IsProof m l mn p := by
        by_cases hex : ∃ p, IsProof m l mn p
        · exact hex
        · exact absurd hsu (fun _ => hex (isProof_ex hl12 hsu))
      obtain ⟨p, hp⟩ := hex
      refine proof_some A B c d m l mn p (fun q => decide (SureP m l mn q)) hmn hl12 set hs0 hs1 hp.sorted hp.lt (decide_eq_true hp.sure) (fun q h1 h2 h3 => hp.least q h1 h2 (of_decide_eq_true h3)) w hMA hS ⟨hA, hCE, hG, fun W h => (hP W h).mono ?_, hOv true (decide_eq_true hsu)⟩
      rintro e w' ⟨hB, ⟨h, _⟩ | ⟨_, h, _⟩ | ⟨_, _, h, _⟩ | ⟨_, _, _, h, _⟩ | ⟨_, _, _, v, p', rfl, ho, hp'⟩⟩
      · exact absurd hok h
      · rw [hin] at h; cases h
      · exact absurd hf h
      · exact absurd hsu h
      · obtain rfl : p' = p := IsProof.eq hp' hp
        exact ⟨v, rfl, ho, hB⟩
    · refine proof_none A B c d m l mn hmn hl12 set hs0 hs1 w hMA (fun Q q cq W h1 h2 h3 h4 => ?_) ⟨hA, hCE, hG, fun W h => (hP W h).mono ?_, hOv false (decide_eq_false hsu)⟩
      · have := hS Q q cq W h1 h2 h3 h4
        rwa [decide_eq_false (fun h => hsu (sure_mono h4 h))] at this
      · rintro e w' ⟨hB, ⟨h, _⟩ | ⟨_, h, _⟩ | ⟨_, _, h, _⟩ | ⟨_, _, _, _, rfl⟩ | ⟨_, _, _, v, p', _, _, hp'⟩⟩
        · exact absurd hok h
        · rw [hin] at h; cases h
        · exact absurd hf h
        · exact ⟨rfl, hB⟩
        · exact absurd (sure_mono hp'.lt hp'.sure) hsu
end Go.Proofs.YtgdilbilhajgaaaDoor
