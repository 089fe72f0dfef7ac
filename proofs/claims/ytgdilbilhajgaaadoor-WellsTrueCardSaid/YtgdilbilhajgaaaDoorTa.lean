/- WellsTrue: plain, and the arms that end at alive. -/
import Derived.Test.YtgdilbilhajgaaaDoorF1
import Derived.Test.YtgdilbilhajgaaaDoorPw
namespace Go.Proofs.YtgdilbilhajgaaaDoor
set_option linter.unusedVariables false
set_option linter.unusedSimpArgs false
open Go Go.RowKit

theorem w_yes {c : Bool} {p q : Prop} (hc : c = true) (hp : p) : if c = true then p else q := by rw [if_pos hc]; exact hp
theorem w_no {c : Bool} {p q : Prop} (hc : c = false) (hq : q) : if c = true then p else q := by rw [if_neg (by rw [hc]; decide)]; exact hq

theorem total_nonnegT (m : List (Int × Int)) (x : Nat → Int) : 0 ≤ totalW m x := by
  have h := sumL_le (f := fun _ => 0) (g := wellOver m x) (l := List.range m.length) (fun k _ => by unfold wellOver; split <;> omega)
  rw [sumL_zero] at h
  exact h
theorem mem_perhaps {m : List (Int × Int)} {d : Nat → Int × Int} {mn : Nat} (hmn : mn < m.length) : (mn : Int) ∈ perhapsL m d ↔ limW m mn < (d mn).2 := by
  unfold perhapsL ovL
  simp only [List.mem_map, List.mem_filter, List.mem_range, decide_eq_true_eq]
  constructor
  · rintro ⟨a, ⟨_, h⟩, e⟩
    obtain rfl : a = mn := by omega
    exact h
  · exact fun h => ⟨mn, ⟨hmn, h⟩, rfl⟩
theorem mem_surelyT {m : List (Int × Int)} {d : Nat → Int × Int} {mn : Nat} (hmn : mn < m.length) : (mn : Int) ∈ surelyL m d ↔ limW m mn < (d mn).1 := by
  unfold surelyL ovL
  simp only [List.mem_map, List.mem_filter, List.mem_range, decide_eq_true_eq]
  constructor
  · rintro ⟨a, ⟨_, h⟩, e⟩
    obtain rfl : a = mn := by omega
    exact h
  · exact fun h => ⟨mn, ⟨hmn, h⟩, rfl⟩
/-- A reading that a true flow agrees with. -/
def GoodR (n : Nat) (x : Nat → Int) (r : Int × Int × Int) : Prop := ∃ i : Nat, i < n ∧ r.1 = (i : Int) ∧ (0 ≤ r.2.1 ∧ r.2.1 ≤ x i) ∧ x i ≤ r.2.2 ∧ r.2.2 ≤ 1600
theorem good_rds {n : Nat} {x : Nat → Int} {ls : List (Int × Int × Int)} (h : ∀ r ∈ ls, GoodR n x r) (hl : ls.length ≤ 12) : RdsOk n ls := by
  refine ⟨hl, fun k hk => ?_⟩
  obtain ⟨i, h1, h2, h3, h4, h5⟩ := h _ (List.getElem_mem hk)
  exact ⟨by omega, by omega, by omega, h5⟩
theorem good_feas {m : List (Int × Int)} (hm : MOk m) {x : Nat → Int} (hx : FlowTo m 0 x) {ls : List (Int × Int × Int)} (h : ∀ r ∈ ls, GoodR m.length x r) : Feas m ls x :=
  hx.feas hm fun r hr i hi e => by
    obtain ⟨j, h1, h2, h3, h4, h5⟩ := h r hr
    obtain rfl : i = j := by omega
    omega
theorem good_snoc {n : Nat} {x : Nat → Int} {ls : List (Int × Int × Int)} {r : Int × Int × Int} (h : ∀ r ∈ ls, GoodR n x r) (hr : GoodR n x r) : ∀ r' ∈ ls ++ [r], GoodR n x r' := fun r' h' => by
  rcases List.mem_append.1 h' with h1 | h1
  · exact h r' h1
  · rw [List.mem_singleton.1 h1]; exact hr
set_option maxRecDepth 100000 in
set_option maxHeartbeats 8000000 in
theorem true_alive (A C B : Option Addr) (c cc cb : Nat) (m : List (Int × Int)) (nw ny : Nat) (w : World) (hT : TabOk w) (hm : Pairs w w.heap.size A m) (hml : m.length ≤ 9223372036854775807) (h : greatB m.length 0 10 = true ∨ ny = 0 ∨ 12 < nw ∨ ¬ MOk m) :
    Calls Tryd.prog 7 #[.slice A m.length c, .slice C nw cc, .slice B ny cb] w fun e w' => e = .returned (.bool true) ∧ Below w.heap.size w w' := by
  have HA : Hid (∀ W, Below w.heap.size w W → Calls Tryd.prog 12 #[] W fun e w' => e = .returned (.bool true) ∧ Below W.heap.size W w') := Lib.hid fun W h => alive12 W (hT.below h)
  have HG : Hid (∀ W, Calls Tryd.prog 11 #[.slice A m.length c, .slice none 0 0, I 10] W fun e w' => e = .returned (.bool (greatB m.length 0 10)) ∧ W = w') := Lib.hid fun W => great11 A none m.length c 0 0 10 W
  have HMA : Hid (∀ W, Below w.heap.size w W → Calls Tryd.prog 19 #[.slice A m.length c] W fun e w' => e = .returned (.bool (mOkB m)) ∧ Below W.heap.size W w') := Lib.hid fun W h => mains19 A c m W ((hm.below h).more h.size) hml
  clear hT hm
  cases hg : greatB m.length 0 10
  · rw [hg] at HG h
    by_cases h0 : ny = 0
    · have g0 : ((ny : Int) == 0) = true := by simp; omega
      have g0' : (ny == 0) = true := by simpa using h0
      clear h h0
      go_enter Tryd.func7, Tryd.ntmps7
      go_wp2_with (first
        | (go_at_call 11; refine (HG.out _).mono ?_; rintro e w0 ⟨rfl, rfl⟩)
        | (go_at_call 19; refine (HMA.out _ (Below.refl _ _)).mono ?_; rintro e w1 ⟨rfl, hB1⟩)
        | (go_at_call 12; refine (HA.out _ (by first | exact hB1 | exact Below.refl _ _)).mono ?_; rintro e w2 ⟨rfl, hB2⟩)
        | fail)
      go_ret
      exact ⟨rfl, by first | exact hB1.trans (hB2.mono hB1.size) | exact hB2⟩
    · have g0 : ((ny : Int) == 0) = false := by simp; omega
      have g0' : (ny == 0) = false := by simpa using h0
      by_cases h12 : 12 < nw
      · have g1 : decide ((12 : Int) < (nw : Int)) = true := decide_eq_true (by omega)
        have g1' : decide (12 < nw) = true := decide_eq_true h12
        clear h h0 h12
        go_enter Tryd.func7, Tryd.ntmps7
        go_wp2_with (first
          | (go_at_call 11; refine (HG.out _).mono ?_; rintro e w0 ⟨rfl, rfl⟩)
          | (go_at_call 19; refine (HMA.out _ (Below.refl _ _)).mono ?_; rintro e w1 ⟨rfl, hB1⟩)
          | (go_at_call 12; refine (HA.out _ (by first | exact hB1 | exact Below.refl _ _)).mono ?_; rintro e w2 ⟨rfl, hB2⟩)
          | fail)
        go_ret
        exact ⟨rfl, by first | exact hB1.trans (hB2.mono hB1.size) | exact hB2⟩
      · have g1 : decide ((12 : Int) < (nw : Int)) = false := decide_eq_false (by omega)
        have g1' : decide (12 < nw) = false := decide_eq_false h12
        have hmk : mOkB m = false := by
          cases e : mOkB m
          · rfl
          · rcases h with h | h | h | h
            · cases h
            · exact absurd h h0
            · exact absurd h h12
            · exact absurd (mOkB_iff.1 e) h
        rw [hmk] at HMA
        clear h h0 h12 hmk
        go_enter Tryd.func7, Tryd.ntmps7
        go_wp2_with (first
          | (go_at_call 11; refine (HG.out _).mono ?_; rintro e w0 ⟨rfl, rfl⟩)
          | (go_at_call 19; refine (HMA.out _ (Below.refl _ _)).mono ?_; rintro e w1 ⟨rfl, hB1⟩)
          | (go_at_call 12; refine (HA.out _ (by first | exact hB1 | exact Below.refl _ _)).mono ?_; rintro e w2 ⟨rfl, hB2⟩)
          | fail)
        go_ret
        exact ⟨rfl, by first | exact hB1.trans (hB2.mono hB1.size) | exact hB2⟩
  · rw [hg] at HG
    clear h
    go_enter Tryd.func7, Tryd.ntmps7
    go_wp2_with (first
      | (go_at_call 11; refine (HG.out _).mono ?_; rintro e w0 ⟨rfl, rfl⟩)
      | (go_at_call 19; refine (HMA.out _ (Below.refl _ _)).mono ?_; rintro e w1 ⟨rfl, hB1⟩)
      | (go_at_call 12; refine (HA.out _ (by first | exact hB1 | exact Below.refl _ _)).mono ?_; rintro e w2 ⟨rfl, hB2⟩)
      | fail)
    go_ret
    exact ⟨rfl, by first | exact hB1.trans (hB2.mono hB1.size) | exact hB2⟩
end Go.Proofs.YtgdilbilhajgaaaDoor
