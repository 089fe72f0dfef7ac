/- Posts that are read; crowds that are possible. -/
import Derived.Test.YtfebhofihioaoaaS2
namespace Go.Proofs.Ytfebhofihioaoaa
set_option linter.unusedVariables false
set_option linter.unusedSimpArgs false
open Go Go.RowKit

/-- Six numbers. -/
def six (p : Nat → Int) : List Value := (List.range 6).map fun i => I (p i)
theorem six_eq (p : Nat → Int) : six p = [I (p 0), I (p 1), I (p 2), I (p 3), I (p 4), I (p 5)] := rfl
theorem six_len (p : Nat → Int) : (six p).length = 6 := by simp [six]
theorem six_at (p : Nat → Int) {k : Nat} (h : k < 6) : (six p)[k]? = some (I (p k)) := by simp [six, h]
theorem six_set (p : Nat → Int) (k : Nat) (v : Int) : (six p).set k (I v) = six (fun i => if i = k then v else p i) := by
  unfold six
  refine List.ext_getElem (by simp) fun i h1 h2 => ?_
  rw [List.getElem_set]
  by_cases e : k = i
  · subst e; simp
  · have e' : ¬ i = k := fun h => e h.symm
    simp [e, e']
theorem six_congr {p q : Nat → Int} (h : ∀ i, i < 6 → p i = q i) : six p = six q := List.map_congr_left fun i hi => by rw [h i (List.mem_range.1 hi)]
/-- The first k numbers of a list. -/
def padP (l : List Int) (k : Nat) : Nat → Int := fun i => if i < k then l.getD i 0 else 0
theorem padP_zero (l : List Int) : padP l 0 = fun _ => 0 := by funext i; simp [padP]
theorem padP_succ (l : List Int) {k : Nat} (h : k < l.length) : (fun i => if i = k then l[k] else padP l k i) = padP l (k + 1) := by
  funext i
  unfold padP
  by_cases e : i = k
  · subst e; simp [List.getD, h]
  · by_cases h1 : i < k
    · simp [e, h1, show i < k + 1 by omega]
    · simp [e, h1, show ¬ i < k + 1 by omega]
/-- What is read. -/
noncomputable def readP (x : Prk) (l : List Int) : Nat → Int := if postsB x l then padP l l.length else fun _ => 0
set_option maxRecDepth 100000 in
set_option maxHeartbeats 4000000 in
theorem read35 (x : Prk) (A B : Option Addr) (c d : Nat) (l : List Int) (w : World) (hn6 : x.sp.length ≤ 6) (hl : Ints w w.heap.size B l) (hll : l.length ≤ 9223372036854775807) :
    Calls Try.prog 35 #[x.val A c, .slice B l.length d] w fun e w' => e = .returned (.tuple #[.agg #[I (readP x l 0), I (readP x l 1), I (readP x l 2), I (readP x l 3), I (readP x l 4), I (readP x l 5)], .bool (postsB x l)]) ∧ Below w.heap.size w w' := by
  have HL := Lib.hid hl
  have HY : Hid (l.length = x.sp.length → (∀ k (h : k < l.length), 0 ≤ l[k] ∧ l[k] ≤ 12) → postsB x l = true ∧ readP x l = padP l l.length) := Lib.hid fun h1 h2 => by
    have h3 : postsB x l = true := postsB_iff.2 ⟨h1, h2⟩
    exact ⟨h3, by unfold readP; rw [if_pos h3]⟩
  have HN0 : ∀ (_ : postsB x l = false), readP x l = fun _ => 0 := fun h => by unfold readP; rw [if_neg (by rw [h]; decide)]
  have HN1 : Hid (l.length ≠ x.sp.length → postsB x l = false ∧ readP x l = fun _ => 0) := Lib.hid fun h => by
    have h3 : postsB x l = false := bool_false fun hb => h (postsB_iff.1 hb).1
    exact ⟨h3, HN0 h3⟩
  have HN2 : Hid (∀ k (h : k < l.length), ¬ (0 ≤ l[k] ∧ l[k] ≤ 12) → postsB x l = false ∧ readP x l = fun _ => 0) := Lib.hid fun k h1 h2 => by
    have h3 : postsB x l = false := bool_false fun hb => h2 ((postsB_iff.1 hb).2 k h1)
    exact ⟨h3, HN0 h3⟩
  clear HN0
  generalize postsB x l = pb at *
  generalize readP x l = rp at *
  obtain ⟨sp, alo, ahi⟩ := x
  simp only [Prk.val] at *
  clear hl
  by_cases hlen : l.length = sp.length
  · have e1 : ((l.length : Int) != (sp.length : Int)) = false := by simp [hlen]
    have e2 : (l.length != sp.length) = false := by simp [hlen]
    have HYY := Lib.hid (HY.out hlen)
    have hl6 : l.length ≤ 6 := by omega
    clear hlen HY HN1
    have HB0 : Hid (Below w.heap.size w ((w.alloc (.cells #[.slice A sp.length c, I alo, I ahi] 26)).alloc (.cells #[I 0, I 0, I 0, I 0, I 0, I 0] 65))) := Lib.hid (by (repeat' (first | assumption | exact Below.refl _ _ | refine Below.drew ?_ | refine below_drewN ?_ _ | refine Below.setCell ?_ (by first | omega | (simp; done) | (simp; omega)) _ | refine Below.alloc ?_ (by first | omega | (simp; done) | (simp; omega)) _ | refine Below.trans ?_ (Below.mono (by assumption) (by first | omega | (simp; done) | (simp; omega))))))
    have HX0 : Hid (Box ((w.alloc (.cells #[.slice A sp.length c, I alo, I ahi] 26)).alloc (.cells #[I 0, I 0, I 0, I 0, I 0, I 0] 65)) (w.heap.size + 1) (six (padP l 0))) := Lib.hid (by
      rw [padP_zero]
      have := Box.new (w.alloc (.cells #[.slice A sp.length c, I alo, I ahi] 26)) (six fun _ => 0) 65
      rwa [World.size_alloc] at this)
    go_enter Try.func35, Try.ntmps35
    go_wp2_with (fail)
    obtain ⟨T, hT⟩ : ∃ T, T = w.heap.size + 1 := ⟨_, rfl⟩
    rw [← hT] at HX0 ⊢
    have hTw : w.heap.size ≤ T := by omega
    clear hT
    go_loopw [5, 17] (fun s5 s17 wr => ∃ k : Nat, k ≤ l.length ∧ s17 = I k ∧ s5 = .bool false ∧ Below w.heap.size w wr ∧ Hid (Box wr T (six (padP l k))) ∧ Hid (∀ j (h : j < l.length), j < k → 0 ≤ l[j] ∧ l[j] ≤ 12)) (fun _ s _ => l.length - (intOf s).toNat)
    case atStart => exact ⟨0, by omega, rfl, rfl, HB0.out, HX0, Lib.hid fun j _ h => by omega⟩
    case round =>
      clear HB0 HX0
      obtain ⟨k, hk, rfl, rfl, hB, HX, HP⟩ := hrel
      have hwz := hB.size
      have hTz := HX.out.1
      obtain ⟨c0, f0⟩ := HX.out.at_ 0 _ (six_at _ (by omega))
      obtain ⟨c1, f1⟩ := HX.out.at_ 1 _ (six_at _ (by omega))
      obtain ⟨c2, f2⟩ := HX.out.at_ 2 _ (six_at _ (by omega))
      obtain ⟨c3, f3⟩ := HX.out.at_ 3 _ (six_at _ (by omega))
      obtain ⟨c4, f4⟩ := HX.out.at_ 4 _ (six_at _ (by omega))
      obtain ⟨c5, f5⟩ := HX.out.at_ 5 _ (six_at _ (by omega))
      by_cases hlt : k < l.length
      · obtain ⟨lb, lo, hLe, hlz, hlc⟩ := (HL.out.below hB) (by omega)
        subst hLe
        have l0 := hlc k hlt
        have HK := Lib.hid (HN2.out k hlt)
        have HST : Hid (0 ≤ l[k] ∧ l[k] ≤ 12 → ∀ j (h : j < l.length), j < k + 1 → 0 ≤ l[j] ∧ l[j] ≤ 12) := Lib.hid fun e j h hj => by
          rcases Nat.lt_succ_iff_lt_or_eq.1 hj with h1 | rfl
          · exact HP.out j h h1
          · exact e
        have HIN : Hid (∀ W, Calls Try.prog 30 #[I l[k], I 0, I 12] W fun e w' => e = .returned (.bool (inB l[k] 0 12)) ∧ W = w') := Lib.hid fun W => within30 _ _ _ W
        have HX2 : Hid (Box (wr.setCell ⟨T, k, none⟩ (I l[k])) T (six (padP l (k + 1)))) := Lib.hid (by
          rw [← padP_succ l hlt, ← six_set]
          exact HX.out.set k _)
        have hB2 : Below w.heap.size w (wr.setCell ⟨T, k, none⟩ (I l[k])) := hB.setCell hTw _
        generalize l[k] = v at *
        have p0 : (0 : Int) ≤ (k : Int) := by omega
        have p1 : (k : Int) < (l.length : Int) := by omega
        have p2 : (k : Int) < 6 := by omega
        clear hlc
        cases hb : inB v 0 12
        · obtain ⟨hF1, hF2⟩ := HK.out (inB_false.1 hb)
          have HF1 := Lib.hid hF1
          have HF2 := Lib.hid hF2
          rw [hb] at HIN
          clear hb hF1 hF2 HK HX2 hB2 HST
          go_wp2_with (first
            | (go_at_call 30; refine (HIN.out _).mono ?_; rintro e w1 ⟨rfl, rfl⟩)
            | fail)
          refine bodyPost_ret (v := .tuple #[.agg #[I 0, I 0, I 0, I 0, I 0, I 0], .bool false]) (by simp [results, Try.results35, go_sem, c0, c1, c2, c3, c4, c5, f0, f1, f2, f3, f4, f5]) rfl ⟨by rw [HF1.out, HF2.out], ?_⟩
          exact (((((hB.setCell hTw _).setCell hTw _).setCell hTw _).setCell hTw _).setCell hTw _).setCell hTw _
        · have HT := Lib.hid (HST.out (inB_true.1 hb))
          rw [hb] at HIN
          have ck : wr.cell? ⟨T, k, none⟩ = some (I (padP l k k)) := (HX.out.at_ k _ (six_at _ (by omega))).1
          have fk : wr.frozen? ⟨T, k, none⟩ = false := (HX.out.at_ k _ (six_at _ (by omega))).2
          clear hb c0 c1 c2 c3 c4 c5 f0 f1 f2 f3 f4 f5
          go_wp2_with (first
            | (go_at_call 30; refine (HIN.out _).mono ?_; rintro e w1 ⟨rfl, rfl⟩)
            | fail)
          go_roundw
          case rel => exact ⟨k + 1, by omega, by go_num, rfl, hB2, HX2, HT⟩
          case measure => first | (simp [intOf]; done) | (simp [intOf]; omega)
      · obtain rfl : l.length = k := by omega
        obtain ⟨hT1, hT2⟩ := HYY.out fun j hj => HP.out j hj hj
        have HT1 := Lib.hid hT1
        have HT2 := Lib.hid hT2
        clear hT1 hT2
        generalize padP l l.length = pp at *
        go_wp2
        refine bodyPost_ret (v := .tuple #[.agg #[I (pp 0), I (pp 1), I (pp 2), I (pp 3), I (pp 4), I (pp 5)], .bool true]) (by simp [results, Try.results35, go_sem, c0, c1, c2, c3, c4, c5]) rfl ⟨by rw [HT1.out, HT2.out], ?_⟩
        first | exact hB | exact (((((hB.setCell hTw _).setCell hTw _).setCell hTw _).setCell hTw _).setCell hTw _).setCell hTw _
  · have e1 : ((l.length : Int) != (sp.length : Int)) = true := by simp; omega
    have e2 : (l.length != sp.length) = true := by simpa using hlen
    obtain ⟨hF1, hF2⟩ := HN1.out hlen
    have HF1 := Lib.hid hF1
    have HF2 := Lib.hid hF2
    clear hlen HY HN1 HN2 hF1 hF2
    go_enter Try.func35, Try.ntmps35
    go_wp2_with (fail)
    refine bodyPost_ret (v := .tuple #[.agg #[I 0, I 0, I 0, I 0, I 0, I 0], .bool false]) (by simp [results, Try.results35, go_sem]) rfl ⟨by rw [HF1.out, HF2.out], ?_⟩
    (repeat' (first | assumption | exact Below.refl _ _ | refine Below.drew ?_ | refine below_drewN ?_ _ | refine Below.setCell ?_ (by first | omega | (simp; done) | (simp; omega)) _ | refine Below.alloc ?_ (by first | omega | (simp; done) | (simp; omega)) _ | refine Below.trans ?_ (Below.mono (by assumption) (by first | omega | (simp; done) | (simp; omega)))))
end Go.Proofs.Ytfebhofihioaoaa
