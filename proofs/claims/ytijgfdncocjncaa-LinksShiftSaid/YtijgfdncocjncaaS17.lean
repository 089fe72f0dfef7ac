/- Fewest, of the program. -/
import Derived.Test.YtijgfdncocjncaaS16
namespace Go.Proofs.Ytijgfdncocjncaa
set_option linter.unusedVariables false
set_option linter.unusedSimpArgs false
open Go Go.RowKit

theorem fewT_sub {x : Wat} {t : Nat} {m : List Nat} (h : fewT x t = some m) : m.Sublist (srcs x t) := by
  unfold fewT at h
  obtain ⟨c, _, hc⟩ := List.exists_of_findSome?_eq_some h
  exact ((mem_chs _ _ _).1 (List.mem_of_find?_eq_some hc)).1
theorem lnk_pair {t : Nat} {m : List Nat} (h : m.Pairwise (· < ·)) : (lnk t m).Pairwise leR := by
  unfold lnk
  rw [List.pairwise_map]
  exact h.imp fun h => .inr ⟨rfl, by show ((_ : Nat) : Int) ≤ _; omega⟩
theorem mem_lnk {t : Nat} {m : List Nat} {p : Int × Int} (h : p ∈ lnk t m) : p.2 = (t : Int) := by
  unfold lnk at h
  obtain ⟨f, _, rfl⟩ := List.mem_map.1 h
  rfl
theorem fewTo_ok (x : Wat) : ∀ (k : Nat) (o : List (Int × Int)), k ≤ 6 → x.n ≤ 6 → fewTo x k = some o → o.length ≤ 6 * k ∧ o.Pairwise leR ∧ ∀ p ∈ o, p.2 < (k : Int)
  | 0, o, _, _, h => by
    simp only [fewTo, Option.some.injEq] at h
    subst h
    exact ⟨by simp, .nil, fun p h => by simp at h⟩
  | k + 1, o, hk, hn, h => by
    unfold fewTo at h
    cases h1 : fewTo x k with
    | none => rw [h1] at h; simp at h
    | some o1 =>
      cases h2 : fewT x k with
      | none => rw [h1, h2] at h; simp at h
      | some m =>
        rw [h1, h2] at h
        simp only [Option.some.injEq] at h
        subst h
        obtain ⟨a1, a2, a3⟩ := fewTo_ok x k o1 (by omega) hn h1
        have hs := fewT_sub h2
        have hl := hs.length_le
        have hl2 := srcs_len x k
        refine ⟨by rw [List.length_append, lnk_len]; omega, ?_, ?_⟩
        · rw [List.pairwise_append]
          refine ⟨a2, lnk_pair ((srcs_sorted x k).sublist hs), fun p hp q hq => .inl ?_⟩
          rw [mem_lnk hq]
          exact a3 p hp
        · intro p hp
          rcases List.mem_append.1 hp with h | h
          · have := a3 p h; omega
          · rw [mem_lnk h]; omega
theorem fewTo_none (x : Wat) {k : Nat} (h : fewTo x k = none) : ∀ j, k ≤ j → fewTo x j = none
  | 0, hj => by obtain rfl : k = 0 := by omega
                exact h
  | j + 1, hj => by
    rcases Nat.lt_or_ge k (j + 1) with h1 | h1
    · unfold fewTo
      rw [fewTo_none x h j (by omega)]
    · obtain rfl : k = j + 1 := by omega
      exact h
theorem lack_few {x : Wat} (hm : x.m ≤ 64) (t : Nat) : (setN (lackP x t) = 0 → ∃ m, fewT x t = some m) ∧ (¬ setN (lackP x t) = 0 → fewT x t = none) := by
  have h := lackP_en hm t
  constructor
  · intro h0
    cases h2 : fewT x t with
    | none => rw [fewT_none, h.1 h0] at h2; cases h2
    | some m => exact ⟨m, rfl⟩
  · intro h0
    rw [fewT_none]
    cases h2 : enB x t (srcs x t) with
    | false => rfl
    | true => exact absurd (h.2 h2) h0
theorem flat2_src {W : World} {B : Nat} {A : Option Addr} {l : List (Int × Int)} (h : Twos W B A l) : 0 < l.length → ∃ ad, A = some ad ∧ ∀ j u, (flat2 l)[j]? = some u → W.cell? (ad.add j) = some u := fun h0 => by
  obtain ⟨b, off, rfl, h1, h2⟩ := h h0
  refine ⟨_, rfl, fun j u hj => ?_⟩
  rw [Addr.add_lit]
  have hj' := (List.getElem?_eq_some_iff.1 hj).1
  rw [flat2_len] at hj'
  obtain ⟨g0, g1⟩ := flat2_get l (j / 2) (by omega)
  obtain ⟨c0, c1⟩ := h2 (j / 2) (by omega)
  rcases Nat.mod_two_eq_zero_or_one j with e | e
  · have ej : j / 2 * 2 = j := by omega
    rw [ej] at g0 c0
    rw [g0] at hj
    rw [← hj]
    exact c0
  · have ej : j / 2 * 2 + 1 = j := by omega
    rw [ej] at g1
    rw [show off + j / 2 * 2 + 1 = off + j by omega] at c1
    rw [g1] at hj
    rw [← hj]
    exact c1
set_option maxRecDepth 100000 in
set_option maxHeartbeats 4000000 in
theorem fewest15 (x : Wat) (A B : Option Addr) (c d : Nat) (w : World) (h64 : Wat64 x) (hW : WatAt w x A B) :
    Calls Try.prog 15 #[x.val A c B d] w fun e w' => ∃ A' c', e = .returned (.tuple #[.slice A' (fewR x).1.length c', I (fewR x).2]) ∧ Twos w' w'.heap.size A' (fewR x).1 ∧ Below w.heap.size w w' := by
  have H28 := Lib.hid fun (W : World) (hB : Below w.heap.size w W) => isWatch28 x A B c d W (hW.below hB) h64
  have hlen := h64.hlen
  have HB0 : Hid (Below w.heap.size w (w.alloc (.cells #[.slice A x.hb.length c, .slice B x.er.length d, I x.en] 25))) := Lib.hid (by (repeat' (first | assumption | exact Below.refl _ _ | refine Below.drew ?_ | refine below_drewN ?_ _ | refine Below.setCell ?_ (by first | omega | (simp; done) | (simp; omega)) _ | refine Below.alloc ?_ (by first | omega | (simp; done) | (simp; omega)) _ | refine Below.trans ?_ (Below.mono (by assumption) (by first | omega | (simp; done) | (simp; omega))))))
  have HBa : Hid (Box (w.alloc (.cells #[.slice A x.hb.length c, .slice B x.er.length d, I x.en] 25)) w.heap.size [.slice A x.hb.length c, .slice B x.er.length d, I x.en]) := Lib.hid (Box.new w [.slice A x.hb.length c, .slice B x.er.length d, I x.en] 25)
  have HZ0 : Hid (w.heap.size + 1 = (w.alloc (.cells #[.slice A x.hb.length c, .slice B x.er.length d, I x.en] 25)).heap.size) := Lib.hid (by simp)
  cases hwb : watB x
  · have HR : Hid (fewR x = ([], 1)) := Lib.hid (by unfold fewR; rw [hwb]; rfl)
    rw [hwb] at H28
    unfold Wat.val at H28 ⊢
    go_enter Try.func15, Try.ntmps15
    go_wp2_with (first | (go_at_call 28; refine (H28.out _ HB0.out).mono ?_; rintro e w1 ⟨rfl, hB1⟩) | fail)
    refine bodyPost_ret (v := .tuple #[.slice none 0 0, I 1]) (by simp [results, Try.results15, go_sem]) rfl ⟨none, 0, by rw [HR.out]; rfl, by rw [HR.out]; exact fun h => absurd h (by simp), HB0.out.trans (hB1.mono (by simp))⟩
  · have hx := watB_iff.1 hwb
    have HX := Lib.hid hx
    have hn6 : x.hb.length ≤ 6 := hx.n6
    have HRS : Hid (∀ o, fewTo x x.hb.length = some o → fewR x = (o, 0)) := Lib.hid fun o h => by unfold fewR; rw [hwb, show fewTo x x.n = some o from h]; rfl
    have HRN : Hid (∀ k, k ≤ x.hb.length → fewTo x k = none → fewR x = ([], 4)) := Lib.hid fun k h1 h => by unfold fewR; rw [hwb, fewTo_none x h x.n h1]; rfl
    have H30 : Hid (∀ W, Below w.heap.size w W → Calls Try.prog 30 #[x.val A c B d] W fun e w' => ∃ (D : Option Addr) (cs : Nat), e = .returned (.pointer (some ⟨W.heap.size + 1, 0, none⟩)) ∧ Run w' (W.heap.size + 1) x A B c d D cs ∧ Below W.heap.size W w') := Lib.hid fun W h => newWatch30 x A B c d W hx (hW.below h)
    have H33 : Hid (∀ (P k : Nat) (D : Option Addr) (cs : Nat) (W : World), k < x.hb.length → Run W P x A B c d D cs → Calls Try.prog 33 #[.pointer (some ⟨P, 0, none⟩), I k] W fun e w' => e = .returned (U64 (setN (lackP x k))) ∧ Below W.heap.size W w') := Lib.hid fun P k D cs W h1 hR => lacking33 x P k A B c d D cs W hx hR h1
    have H38 : Hid (∀ (P k : Nat) (D : Option Addr) (cs : Nat) (W : World) (m : List Nat), k < x.hb.length → Run W P x A B c d D cs → fewT x k = some m → Calls Try.prog 38 #[.pointer (some ⟨P, 0, none⟩), I k] W fun e w' => ∃ A' c', e = .returned (.slice A' m.length c') ∧ Twos w' w'.heap.size A' (lnk k m) ∧ Below W.heap.size W w') := Lib.hid fun P k D cs W m h1 hR hm => fewest38 x P k A B c d D cs W hx hR h1 m hm
    have HLF := Lib.hid fun t => lack_few (x := x) hx.m64 t
    have HFO := Lib.hid fun k o h1 h2 => fewTo_ok x k o h1 hn6 h2
    rw [hwb] at H28
    clear hx hW h64
    unfold Wat.val at H28 H30 ⊢
    go_enter Try.func15, Try.ntmps15
    go_wp2_with (first
      | (go_at_call 28; generalize (w.alloc (.cells #[.slice A x.hb.length c, .slice B x.er.length d, I x.en] 25)) = wa at *; refine (H28.out _ HB0.out).mono ?_; rintro e w1 ⟨rfl, hB1⟩; have HBa1 := HBa.out.call hB1; obtain ⟨k0, _⟩ := HBa1.at_ 0 _ rfl; obtain ⟨k1, _⟩ := HBa1.at_ 1 _ rfl; obtain ⟨k2, _⟩ := HBa1.at_ 2 _ rfl; have HB1 : Hid (Below w.heap.size w w1) := Lib.hid (HB0.out.trans (hB1.mono (by have := HZ0.out; omega))))
      | (go_at_call 30; refine (H30.out _ HB1.out).mono ?_; rintro e w2 ⟨D, cs, rfl, hR, hB2⟩; have HRR := Lib.hid hR; have sp0 := hR.sp0)
      | fail)
    have HB2 : Hid (Below w.heap.size w w2) := Lib.hid (HB1.out.trans (hB2.mono (by have := HB1.out.size; omega)))
    have hz1 := HB1.out.size
    have hz2 := hB2.size
    clear k0 k1 k2 hB1 hB2 hR sp0 HBa1 H30 H28
    obtain ⟨P, hP⟩ : ∃ P, w1.heap.size + 1 = P := ⟨_, rfl⟩
    rw [hP] at HRR ⊢
    have hPz := HRR.out.lt
    have HPL := Lib.hid fun k => setN_lt (lackP x k)
    obtain ⟨i0, hi0, hi1, hi2, hi3⟩ := info_parts info84
    clear hP
    go_loopw [5, 17] (fun s5 s17 wr => ∃ (k : Nat) (o : List (Int × Int)), k ≤ x.hb.length ∧ s17 = I k ∧ Below w2.heap.size w2 wr ∧ Hid (fewTo x k = some o) ∧ Hid (wr.ownsRow w2.heap.size 84 2 s5 o.length (flat2 o))) (fun _ s _ => x.hb.length - (intOf s).toNat)
    case atStart => exact ⟨0, [], by omega, rfl, Below.refl _ _, Lib.hid rfl, Lib.hid (World.ownsRow_nil _ _ _ _)⟩
    case round =>
      obtain ⟨k, o, hk, rfl, hB, HT, HO⟩ := hrel
      have hzr := hB.size
      obtain ⟨ho1, ho2, _⟩ := HFO.out k o (by omega) HT.out
      by_cases hlt : k < x.hb.length
      · have H33k := Lib.hid (H33.out P k D cs wr hlt (HRR.out.call hB))
        have p0 : (0 : Int) ≤ (k : Int) := by omega
        have p1 : (k : Int) < (x.hb.length : Int) := by omega
        have hl2 := HPL.out k
        have HLFk := Lib.hid (HLF.out k)
        clear ho2
        obtain ⟨sp, hsp⟩ : ∃ sp, setN (lackP x k) = sp := ⟨_, rfl⟩
        rw [hsp] at H33k hl2 HLFk
        clear hsp
        by_cases hs0 : sp = 0
        · obtain ⟨m, hm⟩ := HLFk.out.1 hs0
          have HM := Lib.hid hm
          have HTN : Hid (fewTo x (k + 1) = some (o ++ lnk k m)) := Lib.hid (by unfold fewTo; rw [HT.out, hm])
          have hm6 : m.length ≤ 6 := Nat.le_trans (fewT_sub hm).length_le (Nat.le_trans (srcs_len x k) hn6)
          have H38k := Lib.hid fun W h => H38.out P k D cs W m hlt (HRR.out.call h) hm
          subst hs0
          clear hm HLFk
          have HFL : Hid (flat2 (o ++ lnk k m) = flat2 o ++ flat2 (lnk k m)) := Lib.hid (flat2_app _ _)
          have HLL : Hid ((flat2 (lnk k m)).length = m.length * 2) := Lib.hid (by rw [flat2_len, lnk_len])
          have HLO : Hid ((o ++ lnk k m).length = o.length + m.length) := Lib.hid (by rw [List.length_append, lnk_len])
          have hs5 := HO.out.lt
          go_wp2_with (first
            | (go_at_call 33; refine H33k.out.mono ?_; rintro e w3 ⟨rfl, hB3⟩; have HB3 : Hid (Below w2.heap.size w2 w3) := Lib.hid (hB.trans (hB3.mono hzr)))
            | (go_at_call 38; refine (H38k.out _ HB3.out).mono ?_; rintro e w4 ⟨A4, c4, rfl, htw, hB4⟩; have HOw := Lib.hid (grown_own (grown_own HO.out hB3) hB4); have HS4 := Lib.hid (flat2_src htw); have HB4 : Hid (Below w2.heap.size w2 w4) := Lib.hid (HB3.out.trans (hB4.mono HB3.out.size)); have hz4 := HB4.out.size)
            | (at_builtin; refine wpList_append_any _ rfl _ _ 74 rfl w2.heap.size 84 i0 (.agg #[I 0, I 0]) 2 16 Try.underlying74 hi0 hi1 hi2 hi3 rfl (by decide) _ _ _ rfl HOw.out A4 m.length c4 (flat2 (lnk k m)) rfl HLL.out (fun h => HS4.out (by rw [lnk_len]; exact h)) (flat2_one _) (by unfold maxLen; omega) (by omega) hz4 ?_; intro v' w6 hown6 hg6)
            | fail)
          have HB6 : Hid (Below w2.heap.size w2 w6) := Lib.hid (HB4.out.grown hg6 hz4 (fun g e => (hs5 g e).1))
          have HO6 : Hid (w6.ownsRow w2.heap.size 84 2 v' (o ++ lnk k m).length (flat2 (o ++ lnk k m))) := Lib.hid (by rw [HLO.out, HFL.out]; exact hown6)
          clear hown6 hg6 HO HOw HS4 htw hB3 hB4
          go_wp2_with (fail)
          go_roundw
          case rel => first | exact ⟨k + 1, _, by omega, by go_num, HB6.out, HTN, HO6⟩ | ((repeat apply Exists.intro); refine ⟨?_, rfl⟩; exact ⟨k + 1, _, by omega, by go_num, HB6.out, HTN, HO6⟩)
          case measure => first | (simp [intOf]; done) | (simp [intOf]; omega)
        · have HM := Lib.hid (HLFk.out.2 hs0)
          have HR : Hid (fewR x = ([], 4)) := Lib.hid (HRN.out (k + 1) hlt (by unfold fewTo; rw [HT.out, HM.out]))
          have hs1 : ¬ (sp : Int) = 0 := by omega
          clear HLFk
          go_wp2_with (first
            | (go_at_call 33; refine H33k.out.mono ?_; rintro e w3 ⟨rfl, hB3⟩; have HB3 : Hid (Below w2.heap.size w2 w3) := Lib.hid (hB.trans (hB3.mono hzr)))
            | fail)
          refine bodyPost_ret (v := .tuple #[.slice none 0 0, I 4]) (by simp [results, Try.results15, go_sem]) rfl ⟨none, 0, by rw [HR.out]; rfl, by rw [HR.out]; exact fun h => absurd h (by simp), HB2.out.trans (HB3.out.mono (by omega))⟩
      · have HR : Hid (fewR x = (o, 0)) := Lib.hid (HRS.out o (by rw [← HT.out]; congr 1; omega))
        have hol : o.length ≤ 1000 := by omega
        have H39 := Lib.hid (sorted39 w2.heap.size _ o wr HO.out (by omega) hol ho2)
        clear HO ho2
        go_wp2_with (first
          | (go_at_call 39; refine H39.out.mono ?_; rintro e w7 ⟨A7, c7, rfl, htw, hB7, _⟩)
          | fail)
        refine bodyPost_ret (v := .tuple #[.slice A7 o.length c7, I 0]) (by simp [results, Try.results15, go_sem]) rfl ⟨A7, c7, by rw [HR.out], by rw [HR.out]; exact htw, HB2.out.trans ((hB.trans hB7).mono (by omega))⟩
end Go.Proofs.Ytijgfdncocjncaa
