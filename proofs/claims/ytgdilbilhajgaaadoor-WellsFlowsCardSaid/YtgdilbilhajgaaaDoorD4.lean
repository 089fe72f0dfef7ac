/- The document's errors, Flows and Over. -/
import Derived.Test.YtgdilbilhajgaaaDoorD3
import Derived.Test.YtgdilbilhajgaaaDoorE26
namespace Go.Proofs.YtgdilbilhajgaaaDoor
set_option linter.unusedVariables false
set_option linter.unusedSimpArgs false
open Go Go.RowKit

/-- What the document's errors answers. -/
def Er41 (m : List (Int × Int)) (l : List (Int × Int × Int)) (b : Bool) (w : World) (e : Ending) (w' : World) : Prop :=
  Below w.heap.size w w' ∧ ((¬ InOk m l ∧ e = .returned (.tuple #[nilS, I 1])) ∨ (InOk m l ∧ b = true ∧ e = .returned (.tuple #[nilS, I 2])) ∨ (InOk m l ∧ b = false ∧ (¬ ∃ x, Feas m l x) ∧ e = .returned (.tuple #[nilS, I 6])) ∨
    (InOk m l ∧ b = false ∧ ∃ S sl, e = .returned (.tuple #[.slice (some ⟨S, 0, none⟩) m.length m.length, I 0]) ∧ w.heap.size ≤ S ∧ SpB w' S sl ∧ sl.length = m.length ∧ IsSpans m l (sF sl)))
set_option maxRecDepth 100000 in
set_option maxHeartbeats 4000000 in
theorem errors41 (A B : Option Addr) (c cb : Nat) (m : List (Int × Int)) (l : List (Int × Int × Int)) (b : Bool) (w : World) (hm : Pairs w w.heap.size A m) (hml : m.length ≤ 9223372036854775807) (hl : Threes w w.heap.size B l) (hll : l.length ≤ 9223372036854775807) :
    Calls Tryd.prog 41 #[.slice A m.length c, .slice B l.length cb, .bool b] w (Er41 m l b w) := by
  have HMA : Hid (∀ W, Below w.heap.size w W → Calls Tryd.prog 19 #[.slice A m.length c] W fun e w' => e = .returned (.bool (mOkB m)) ∧ Below W.heap.size W w') := Lib.hid fun W hW => mains19 A c m W ((hm.below hW).more hW.size) hml
  have HRD : Hid (MOk m → ∀ W, Below w.heap.size w W → Calls Tryd.prog 65 #[.slice B l.length cb, I m.length] W fun e w' => e = .returned (.bool (rdsB m.length l)) ∧ Below W.heap.size W w') := Lib.hid fun hok W hW => readings65 B cb m.length l W ((hl.below hW).more hW.size) hll (by have := hok.le; omega)
  have HFL : Hid (MOk m → ∀ W, Below w.heap.size w W → Calls Tryd.prog 66 #[.slice A m.length c, .slice B l.length cb] W (Fl66 m l W)) := Lib.hid fun hok W hW => flows66 A B c cb m l W hok ((hm.below hW).more hW.size) ((hl.below hW).more hW.size) hll
  clear hm hl
  cases h1 : mOkB m
  · have HNO : Hid (¬ InOk m l) := Lib.hid fun h => by rw [mOkB_iff.2 h.1] at h1; cases h1
    rw [h1] at HMA
    clear h1
    go_enter Tryd.func41, Tryd.ntmps41
    go_wp2_with (first
      | (go_at_call 19; refine (HMA.out _ (Below.refl _ _)).mono ?_; rintro e w1 ⟨rfl, hB1⟩)
      | fail)
    go_ret2
    exact ⟨hB1, .inl ⟨HNO.out, rfl⟩⟩
  · have hok := mOkB_iff.1 h1
    rw [h1] at HMA
    have HOK := Lib.hid hok
    clear h1 hok
    cases h2 : rdsB m.length l
    · have HNO : Hid (¬ InOk m l) := Lib.hid fun h => by rw [rdsB_iff.2 h.2] at h2; cases h2
      rw [h2] at HRD
      clear h2
      go_enter Tryd.func41, Tryd.ntmps41
      go_wp2_with (first
        | (go_at_call 19; refine (HMA.out _ (Below.refl _ _)).mono ?_; rintro e w1 ⟨rfl, hB1⟩)
        | (go_at_call 65; refine (HRD.out HOK.out _ hB1).mono ?_; rintro e w2 ⟨rfl, hB2⟩; have hB12 := hB1.trans (hB2.mono hB1.size))
        | fail)
      go_ret2
      exact ⟨hB12, .inl ⟨HNO.out, rfl⟩⟩
    · have HIN : Hid (InOk m l) := Lib.hid ⟨HOK.out, rdsB_iff.1 h2⟩
      rw [h2] at HRD
      clear h2
      cases b
      · go_enter Tryd.func41, Tryd.ntmps41
        go_wp2_with (first
          | (go_at_call 19; refine (HMA.out _ (Below.refl _ _)).mono ?_; rintro e w1 ⟨rfl, hB1⟩)
          | (go_at_call 65; refine (HRD.out HOK.out _ hB1).mono ?_; rintro e w2 ⟨rfl, hB2⟩; have hB12 := hB1.trans (hB2.mono hB1.size))
          | (go_at_call 66; refine (HFL.out HOK.out _ hB12).mono ?_; rintro e w3 ⟨hB3, ⟨hno, rfl⟩ | ⟨S, sl, rfl, hS, hSp, hsl, hsp⟩⟩ <;> (have hB13 := hB12.trans (hB3.mono hB12.size)) <;> first | (have HNF := Lib.hid hno; clear hno) | (have HSP := Lib.hid hSp; have HSS := Lib.hid hsp; clear hSp hsp))
          | fail)
        · go_ret2
          exact ⟨hB13, .inr (.inr (.inl ⟨HIN.out, rfl, HNF.out, rfl⟩))⟩
        · go_ret2
          exact ⟨hB13, .inr (.inr (.inr ⟨HIN.out, rfl, S, sl, rfl, by have := hB12.size; omega, HSP.out, hsl, HSS.out⟩))⟩
      · go_enter Tryd.func41, Tryd.ntmps41
        go_wp2_with (first
          | (go_at_call 19; refine (HMA.out _ (Below.refl _ _)).mono ?_; rintro e w1 ⟨rfl, hB1⟩)
          | (go_at_call 65; refine (HRD.out HOK.out _ hB1).mono ?_; rintro e w2 ⟨rfl, hB2⟩; have hB12 := hB1.trans (hB2.mono hB1.size))
          | fail)
        go_ret2
        exact ⟨hB12, .inr (.inl ⟨HIN.out, rfl, rfl⟩)⟩

/-! What is answered, as one value. -/
open Classical in
noncomputable def spanL (m : List (Int × Int)) (l : List (Int × Int × Int)) : List (Int × Int) := if h : ∃ sl : List (Int × Int), sl.length = m.length ∧ IsSpans m l (sF sl) then h.choose else []
theorem spanL_eq {m : List (Int × Int)} {l : List (Int × Int × Int)} {sl : List (Int × Int)} (hsl : sl.length = m.length) (h : IsSpans m l (sF sl)) : spanL m l = sl := by
  have hex : ∃ sl : List (Int × Int), sl.length = m.length ∧ IsSpans m l (sF sl) := ⟨sl, hsl, h⟩
  unfold spanL
  rw [dif_pos hex]
  obtain ⟨h1, h2⟩ := hex.choose_spec
  exact list_eq_sF (h1.trans hsl.symm) fun i hi => h2.eq h (by omega)
open Classical in
noncomputable def flR (m : List (Int × Int)) (l : List (Int × Int × Int)) : List (Int × Int) × Int := if InOk m l then (if ∃ x, Feas m l x then (spanL m l, 0) else ([], 6)) else ([], 1)
open Classical in
noncomputable def ovR (m : List (Int × Int)) (l : List (Int × Int × Int)) : List Int × List Int × Int := if InOk m l then (if ∃ x, Feas m l x then (surelyL m (sF (spanL m l)), perhapsL m (sF (spanL m l)), 0) else ([], [], 6)) else ([], [], 1)
def FlOut (r : List (Int × Int) × Int) (w : World) (e : Ending) (w' : World) : Prop := ∃ A c, e = .returned (.tuple #[.slice A r.1.length c, I r.2]) ∧ Pairs w' w'.heap.size A r.1 ∧ r.1.length ≤ 100 ∧ Below w.heap.size w w'
def OvOut (r : List Int × List Int × Int) (w : World) (e : Ending) (w' : World) : Prop := ∃ A c A2 c2, e = .returned (.tuple #[.slice A r.1.length c, .slice A2 r.2.1.length c2, I r.2.2]) ∧ Ints w' w'.heap.size A r.1 ∧ Ints w' w'.heap.size A2 r.2.1 ∧ r.1.length ≤ 100 ∧ r.2.1.length ≤ 100 ∧ Below w.heap.size w w'
section
variable {m : List (Int × Int)} {l : List (Int × Int × Int)}
theorem flR_bad (h : ¬ InOk m l) : flR m l = ([], 1) := if_neg h
theorem flR_wrong (h : InOk m l) (h2 : ¬ ∃ x, Feas m l x) : flR m l = ([], 6) := by unfold flR; rw [if_pos h, if_neg h2]
theorem flR_ok (h : InOk m l) {sl : List (Int × Int)} (hsl : sl.length = m.length) (h2 : IsSpans m l (sF sl)) : flR m l = (sl, 0) := by unfold flR; rw [if_pos h, if_pos h2.some, spanL_eq hsl h2]
theorem ovR_bad (h : ¬ InOk m l) : ovR m l = ([], [], 1) := if_neg h
theorem ovR_wrong (h : InOk m l) (h2 : ¬ ∃ x, Feas m l x) : ovR m l = ([], [], 6) := by unfold ovR; rw [if_pos h, if_neg h2]
theorem surelyL_congr {m : List (Int × Int)} {d d' : Nat → Int × Int} (h : ∀ i, i < m.length → d i = d' i) : surelyL m d = surelyL m d' ∧ perhapsL m d = perhapsL m d' := by
  unfold surelyL perhapsL ovL
  constructor
  · congr 1
    exact List.filter_congr fun i hi => by rw [h i (List.mem_range.1 hi)]
  · congr 1
    exact List.filter_congr fun i hi => by rw [h i (List.mem_range.1 hi)]
/-- Spans as a list. -/
theorem IsSpans.list {d : Nat → Int × Int} (h : IsSpans m l d) : ((List.range m.length).map d).length = m.length ∧ IsSpans m l (sF ((List.range m.length).map d)) ∧ ∀ i, i < m.length → sF ((List.range m.length).map d) i = d i := by
  have e : ∀ i, i < m.length → sF ((List.range m.length).map d) i = d i := fun i hi => by simp [sF, List.getD, hi]
  exact ⟨by simp, ⟨h.some, fun x hx i hi => by rw [e i hi]; exact h.sound x hx i hi, fun i hi v h1 h2 => by rw [e i hi] at h1 h2; exact h.full i hi v h1 h2⟩, e⟩
theorem ovR_ok (h : InOk m l) {d : Nat → Int × Int} (h2 : IsSpans m l d) : ovR m l = (surelyL m d, perhapsL m d, 0) := by
  obtain ⟨a, b, e⟩ := h2.list
  unfold ovR
  rw [if_pos h, if_pos h2.some, spanL_eq a b]
  obtain ⟨e1, e2⟩ := surelyL_congr (m := m) e
  rw [e1, e2]
theorem surelyL_le (m : List (Int × Int)) (d : Nat → Int × Int) : (surelyL m d).length ≤ m.length ∧ (perhapsL m d).length ≤ m.length := ⟨ovL_le _ _, ovL_le _ _⟩
theorem FlowsPost.out {w w' : World} {e : Ending} (h : FlowsPost m l w e w') : FlOut (flR m l) w e w' := by
  obtain ⟨hB, ⟨h, rfl⟩ | ⟨h, h2, rfl⟩ | ⟨h, v, sl, rfl, ho, hsl, hsp⟩⟩ := h
  · rw [flR_bad h]; exact ⟨none, 0, rfl, fun h => by simp at h, by simp, hB⟩
  · rw [flR_wrong h h2]; exact ⟨none, 0, rfl, fun h => by simp at h, by simp, hB⟩
  · rw [flR_ok h hsl hsp]
    obtain ⟨A, c, rfl, hp⟩ := pairs_ownN ho hsl
    exact ⟨A, c, rfl, hp, by have := h.1.le; simp only; omega, hB⟩
theorem OverPost.out {w w' : World} {e : Ending} (h : OverPost m l w e w') : OvOut (ovR m l) w e w' := by
  obtain ⟨hB, ⟨h, rfl⟩ | ⟨h, h2, rfl⟩ | ⟨h, v1, v2, d, rfl, o1, o2, _, hsp⟩⟩ := h
  · rw [ovR_bad h]; exact ⟨none, 0, none, 0, rfl, fun h => by simp at h, fun h => by simp at h, by simp, by simp, hB⟩
  · rw [ovR_wrong h h2]; exact ⟨none, 0, none, 0, rfl, fun h => by simp at h, fun h => by simp at h, by simp, by simp, hB⟩
  · rw [ovR_ok h hsp]
    obtain ⟨A, c, rfl, i1⟩ := ints_ownN o1 rfl
    obtain ⟨A2, c2, rfl, i2⟩ := ints_ownN o2 rfl
    have h3 := surelyL_le m d
    have := h.1.le
    exact ⟨A, c, A2, c2, rfl, i1, i2, by simp only; omega, by simp only; omega, hB⟩
end
theorem own_dr {W : World} {base n size : Nat} {e : TypeId} {v : Value} {xs : List Value} (h : W.ownsRow base e size v n xs) (k : Nat) : (W.drewN k).ownsRow base e size v n xs := own_at h (fun _ _ => rfl)
/-- Two rows of one's own, apart; one has grown. -/
theorem two_rows {W w2 : World} {base : Nat} {v1 v2 v' : Value} {y : List Int} {o : Obj} (h2 : W.ownsRow base 3 1 v2 y.length (y.map I)) (hd : ∀ b, v1.ownBlock = some b → v2.ownBlock ≠ some b) (hg : (W.alloc o).grownBy w2 v1.ownBlock)
    (hat : v'.ownBlock = v1.ownBlock ∨ v'.ownBlock = some (W.alloc o).heap.size) : w2.ownsRow base 3 1 v2 y.length (y.map I) ∧ ∀ b, v'.ownBlock = some b → v2.ownBlock ≠ some b := by
  refine ⟨own_at h2 fun g hg2 => ?_, fun b hb hb2 => ?_⟩
  · have hlt := (h2.lt g hg2).2
    rw [hg.block g (by simp; omega) (fun e => hd g e.symm hg2)]
    exact ((Below.refl _ W).alloc (Nat.le_refl _) o).block g hlt
  · rcases hat with e | e
    · exact hd b (e ▸ hb) hb2
    · have hlt := (h2.lt b hb2).2
      rw [hb] at e
      simp at e
      omega
set_option maxRecDepth 100000 in
theorem flows22 (A B : Option Addr) (c cb : Nat) (m : List (Int × Int)) (l : List (Int × Int × Int)) (w : World) (hm : Pairs w w.heap.size A m) (hml : m.length ≤ 9223372036854775807) (hl : Threes w w.heap.size B l) (hll : l.length ≤ 9223372036854775807) :
    Calls Tryd.prog 22 #[.slice A m.length c, .slice B l.length cb] w (FlOut (flR m l) w) := by
  have HE := Lib.hid (errors41 A B c cb m l false w hm hml hl hll)
  clear hm hl
  go_enter Tryd.func22, Tryd.ntmps22
  go_wp2_with (first
    | (go_at_call 41; refine HE.out.mono ?_; rintro e w1 ⟨hB1, ⟨h, rfl⟩ | ⟨_, ht, _⟩ | ⟨h, _, h2, rfl⟩ | ⟨h, _, S, sl, rfl, hS, hSp, hsl, hsp⟩⟩ <;> (try cases ht))
    | fail)
  · go_ret2
    rw [flR_bad h]
    exact ⟨none, 0, rfl, fun h => by simp at h, by simp, hB1⟩
  · go_ret2
    rw [flR_wrong h h2]
    exact ⟨none, 0, rfl, fun h => by simp at h, by simp, hB1⟩
  · go_ret2
    rw [flR_ok h hsl hsp]
    have h16 := h.1.le
    refine ⟨some ⟨S, 0, none⟩, m.length, by rw [hsl]; rfl, hSp.pairs hSp.1, by simp only; omega, hB1⟩

set_option maxRecDepth 100000 in
set_option maxHeartbeats 4000000 in
theorem over24 (A B : Option Addr) (c cb : Nat) (m : List (Int × Int)) (l : List (Int × Int × Int)) (w : World) (hm : Pairs w w.heap.size A m) (hml : m.length ≤ 9223372036854775807) (hl : Threes w w.heap.size B l) (hll : l.length ≤ 9223372036854775807) :
    Calls Tryd.prog 24 #[.slice A m.length c, .slice B l.length cb] w (OvOut (ovR m l) w) := by
  have HE := Lib.hid (errors41 A B c cb m l false w hm hml hl hll)
  have HM := Lib.hid hm
  obtain ⟨i0, hi0, hi1, hi2, hi3⟩ := info_parts info3
  have hu : Tryd.prog.underlying 26 = some (.slice 3) := Tryd.underlying26
  have HU := Lib.hid hu; have HI0 := Lib.hid hi0; have HI1 := Lib.hid hi1; have HI2 := Lib.hid hi2; have HI3 := Lib.hid hi3
  clear hu hi0 hi1 hi2 hi3 hm hl
  go_enter Tryd.func24, Tryd.ntmps24
  go_wp2_with (first
    | (go_at_call 41; refine HE.out.mono ?_; rintro e w1 ⟨hB1, ⟨h, rfl⟩ | ⟨_, ht, _⟩ | ⟨h, _, h2, rfl⟩ | ⟨h, _, S, sl, rfl, hS, hSp, hsl, hsp⟩⟩ <;> (try cases ht) <;> (try have HNO := Lib.hid h) <;> (try have HN2 := Lib.hid h2) <;> (try have HSP := Lib.hid hSp) <;> (try have HSS := Lib.hid hsp) <;> (try clear h2) <;> (try clear hSp hsp))
    | fail)
  · go_ret3
    rw [ovR_bad HNO.out]; exact ⟨none, 0, none, 0, rfl, fun h => by simp at h, fun h => by simp at h, by simp, by simp, hB1⟩
  · go_ret3
    rw [ovR_wrong HNO.out HN2.out]; exact ⟨none, 0, none, 0, rfl, fun h => by simp at h, fun h => by simp at h, by simp, by simp, hB1⟩
  · have hm16 := HNO.out.1.le
    clear h
    have HM1 := Lib.hid (HM.out.below hB1)
    go_loopw [9, 10, 11] (fun s9 s10 s11 wr => ∃ k : Nat, k ≤ m.length ∧ s11 = I k ∧ Below w1.heap.size w1 wr ∧ Hid (wr.ownsRow w1.heap.size 3 1 s9 (ovL (fun i => decide (limW m i < (sF sl i).1)) k).length ((ovL (fun i => decide (limW m i < (sF sl i).1)) k).map I)) ∧
      Hid (wr.ownsRow w1.heap.size 3 1 s10 (ovL (fun i => decide (limW m i < (sF sl i).2)) k).length ((ovL (fun i => decide (limW m i < (sF sl i).2)) k).map I)) ∧ Hid (∀ b, s9.ownBlock = some b → s10.ownBlock ≠ some b)) (fun _ _ s _ => m.length - (intOf s).toNat)
    case atStart => exact ⟨0, Nat.zero_le _, rfl, Below.refl _ _, Lib.hid (World.ownsRow_nil _ _ _ _), Lib.hid (World.ownsRow_nil _ _ _ _), Lib.hid fun b h => by cases h⟩
    case round =>
      obtain ⟨k, hk, rfl, hB, H9, H10, HD⟩ := hrel
      by_cases hlt : k < m.length
      · obtain ⟨ab, ao, hAe, habz, hac⟩ := HM1.out (by omega)
        subst hAe
        have hks : k < sl.length := by omega
        obtain ⟨d0, d1, _, _⟩ := HSP.out.2 k hks
        have hse : sl[k] = sF sl k := by simp [sF, List.getD, hks]
        have hme : m[k].2 = limW m k := by simp [limW, List.getD, hlt]
        have e2 := (hac k hlt).2
        rw [hse] at d0 d1
        rw [hme] at e2
        have l1 := ovL_le (fun i => decide (limW m i < (sF sl i).1)) k
        have l2 := ovL_le (fun i => decide (limW m i < (sF sl i).2)) k
        have HS1 := Lib.hid (ovL_succ (fun i => decide (limW m i < (sF sl i).1)) k)
        have HS2 := Lib.hid (ovL_succ (fun i => decide (limW m i < (sF sl i).2)) k)
        have hSz := HSP.out.1
        have habz2 : ab < w1.heap.size := by have := hB1.size; omega
        have HCE : Hid (∀ W, Below w1.heap.size w1 W → W.cell? ⟨S, k * 2, none⟩ = some (I (sF sl k).1) ∧ W.cell? ⟨S, k * 2 + 1, none⟩ = some (I (sF sl k).2) ∧ W.cell? ⟨ab, ao + k * 2 + 1, none⟩ = some (I (limW m k))) := Lib.hid fun W hW =>
          ⟨(hW.cell (p := ⟨_, _, none⟩) hSz).trans d0, (hW.cell (p := ⟨_, _, none⟩) hSz).trans d1, (hW.cell (p := ⟨_, _, none⟩) habz2).trans e2⟩
        clear d0 d1 e2 hac hse hme hSz habz habz2
        obtain ⟨X, hX⟩ : ∃ X, X = ovL (fun i => decide (limW m i < (sF sl i).1)) (k + 1) := ⟨_, rfl⟩
        obtain ⟨Y, hY⟩ : ∃ Y, Y = ovL (fun i => decide (limW m i < (sF sl i).2)) (k + 1) := ⟨_, rfl⟩
        rw [← hX] at HS1
        rw [← hY] at HS2
        have HX := Lib.hid hX
        have HY := Lib.hid hY
        clear hX hY
        generalize ovL (fun i => decide (limW m i < (sF sl i).1)) k = x at *
        generalize ovL (fun i => decide (limW m i < (sF sl i).2)) k = y at *
        obtain ⟨b1, hb1⟩ : ∃ b, decide (limW m k < (sF sl k).1) = b := ⟨_, rfl⟩
        obtain ⟨b2, hb2⟩ : ∃ b, decide (limW m k < (sF sl k).2) = b := ⟨_, rfl⟩
        simp only [hb1] at HS1
        simp only [hb2] at HS2
        generalize (sF sl k).1 = lo at *
        generalize (sF sl k).2 = hi at *
        generalize limW m k = lm at *
        have p0 : (0 : Int) ≤ (k : Int) := by omega
        have p1 : (k : Int) < (m.length : Int) := by omega
        have hz := hB.size
        obtain ⟨r0, r1, r2⟩ := HCE.out _ hB
        cases b1
        · simp only [Bool.false_eq_true, if_false] at HS1
          go_wp2_with (fail)
          go_quiet (fail)
          have hB0 := below_drewN hB nq
          have G9 := Lib.hid (own_dr H9.out nq)
          have G10 := Lib.hid (own_dr H10.out nq)
          clear r0 r1 r2 H9 H10 hB
          generalize wr.drewN nq = W0 at *
          have hz0 := hB0.size
          go_wp2
          have K9 : Hid (W0.ownsRow w1.heap.size 3 1 u9 X.length (X.map I)) := Lib.hid (by rw [HS1.out]; exact G9.out)
          have K10 := G10
          have KD := HD
          have hB5 := hB0
          clear G9 G10 HD hB0 hz0 HS1
          obtain ⟨r0, r1, r2⟩ := HCE.out _ hB5
          have hz5 := hB5.size
          cases b2
          · simp only [Bool.false_eq_true, if_false] at HS2
            go_quiet (fail)
            have hB6 := below_drewN hB5 nq
            have L9 := Lib.hid (own_dr K9.out nq)
            have L10 := Lib.hid (own_dr K10.out nq)
            clear r0 r1 r2 K9 K10 hB5
            generalize W0.drewN nq = W6 at *
            have hz6 := hB6.size
            go_wp2
            go_roundw
            case rel => exact ⟨k + 1, by omega, by go_num, hB6, Lib.hid (by rw [← HX.out]; exact L9.out), Lib.hid (by rw [← HY.out, HS2.out]; exact L10.out), KD⟩
            case measure => first | (simp [intOf]; done) | (simp [intOf]; omega)
          · simp only [if_true] at HS2
            go_quiet (fail)
            have hB6 := below_drewN hB5 nq
            have L9 := Lib.hid (own_dr K9.out nq)
            have L10 := Lib.hid (own_dr K10.out nq)
            clear r0 r1 r2 K9 K10 hB5
            generalize W0.drewN nq = W6 at *
            have hz6 := hB6.size
            have HW7 := Lib.hid (L10.out.alloc (.cells #[I k] 3))
            have HC7 := Lib.hid (cell_one3 W6 (I k) 3)
            go_wp2_with (first
              | (at_builtin; refine wpList_append_own_at _ rfl _ _ 26 rfl w1.heap.size 3 i0 (I 0) 1 8 HU.out HI0.out HI1.out HI2.out HI3.out rfl (by decide) _ _ _ rfl HW7.out ⟨W6.heap.size, 0, none⟩ 1 1 [I k] rfl rfl HC7.out (by simp [Value.oneCell']) (by simp [maxLen]; omega) (by omega) (by simp; omega) ?_; intro v7 w7 hown7 hgrow7 _ hat7;
                 have hB7 : Below w1.heap.size w1 w7 := (hB6.alloc hz6 _).grown hgrow7 (by simp; omega) (fun g e => (L10.out.lt g e).1); obtain ⟨g9, gd⟩ := two_rows L9.out (fun b h1 h2 => KD.out b h2 h1) hgrow7 hat7; have M10 : Hid (w7.ownsRow w1.heap.size 3 1 v7 Y.length (Y.map I)) := Lib.hid (by rw [HS2.out]; simpa using hown7); have M9 := Lib.hid g9; have MD := Lib.hid gd; clear hown7 hgrow7 hat7 g9 gd)
              | fail)
            go_roundw
            case rel => exact ⟨k + 1, by omega, by go_num, hB7, Lib.hid (by rw [← HX.out]; exact M9.out), Lib.hid (by rw [← HY.out]; exact M10.out), Lib.hid fun b h1 h2 => MD.out b h2 h1⟩
            case measure => first | (simp [intOf]; done) | (simp [intOf]; omega)
        · simp only [if_true] at HS1
          go_wp2_with (fail)
          go_quiet (fail)
          have hB0 := below_drewN hB nq
          have G9 := Lib.hid (own_dr H9.out nq)
          have G10 := Lib.hid (own_dr H10.out nq)
          clear r0 r1 r2 H9 H10 hB
          generalize wr.drewN nq = W0 at *
          have hz0 := hB0.size
          have HW5 := Lib.hid (G9.out.alloc (.cells #[I k] 3))
          have HC5 := Lib.hid (cell_one3 W0 (I k) 3)
          go_wp2_with (first
            | (at_builtin; refine wpList_append_own_at _ rfl _ _ 26 rfl w1.heap.size 3 i0 (I 0) 1 8 HU.out HI0.out HI1.out HI2.out HI3.out rfl (by decide) _ _ _ rfl HW5.out ⟨W0.heap.size, 0, none⟩ 1 1 [I k] rfl rfl HC5.out (by simp [Value.oneCell']) (by simp [maxLen]; omega) (by omega) (by simp; omega) ?_; intro v5 w5 hown5 hgrow5 _ hat5;
               have hB5 : Below w1.heap.size w1 w5 := (hB0.alloc hz0 _).grown hgrow5 (by simp; omega) (fun g e => (G9.out.lt g e).1); obtain ⟨g10, gd⟩ := two_rows G10.out HD.out hgrow5 hat5; have K9 : Hid (w5.ownsRow w1.heap.size 3 1 v5 X.length (X.map I)) := Lib.hid (by rw [HS1.out]; simpa using hown5); have K10 := Lib.hid g10; have KD := Lib.hid gd; clear hown5 hgrow5 hat5 g10 gd)
            | fail)
          clear HW5 HC5 G9 G10 HD hB0 hz0 HS1
          obtain ⟨r0, r1, r2⟩ := HCE.out _ hB5
          have hz5 := hB5.size
          cases b2
          · simp only [Bool.false_eq_true, if_false] at HS2
            go_quiet (fail)
            have hB6 := below_drewN hB5 nq
            have L9 := Lib.hid (own_dr K9.out nq)
            have L10 := Lib.hid (own_dr K10.out nq)
            clear r0 r1 r2 K9 K10 hB5
            generalize w5.drewN nq = W6 at *
            have hz6 := hB6.size
            go_wp2
            go_roundw
            case rel => exact ⟨k + 1, by omega, by go_num, hB6, Lib.hid (by rw [← HX.out]; exact L9.out), Lib.hid (by rw [← HY.out, HS2.out]; exact L10.out), KD⟩
            case measure => first | (simp [intOf]; done) | (simp [intOf]; omega)
          · simp only [if_true] at HS2
            go_quiet (fail)
            have hB6 := below_drewN hB5 nq
            have L9 := Lib.hid (own_dr K9.out nq)
            have L10 := Lib.hid (own_dr K10.out nq)
            clear r0 r1 r2 K9 K10 hB5
            generalize w5.drewN nq = W6 at *
            have hz6 := hB6.size
            have HW7 := Lib.hid (L10.out.alloc (.cells #[I k] 3))
            have HC7 := Lib.hid (cell_one3 W6 (I k) 3)
            go_wp2_with (first
              | (at_builtin; refine wpList_append_own_at _ rfl _ _ 26 rfl w1.heap.size 3 i0 (I 0) 1 8 HU.out HI0.out HI1.out HI2.out HI3.out rfl (by decide) _ _ _ rfl HW7.out ⟨W6.heap.size, 0, none⟩ 1 1 [I k] rfl rfl HC7.out (by simp [Value.oneCell']) (by simp [maxLen]; omega) (by omega) (by simp; omega) ?_; intro v7 w7 hown7 hgrow7 _ hat7;
                 have hB7 : Below w1.heap.size w1 w7 := (hB6.alloc hz6 _).grown hgrow7 (by simp; omega) (fun g e => (L10.out.lt g e).1); obtain ⟨g9, gd⟩ := two_rows L9.out (fun b h1 h2 => KD.out b h2 h1) hgrow7 hat7; have M10 : Hid (w7.ownsRow w1.heap.size 3 1 v7 Y.length (Y.map I)) := Lib.hid (by rw [HS2.out]; simpa using hown7); have M9 := Lib.hid g9; have MD := Lib.hid gd; clear hown7 hgrow7 hat7 g9 gd)
              | fail)
            go_roundw
            case rel => exact ⟨k + 1, by omega, by go_num, hB7, Lib.hid (by rw [← HX.out]; exact M9.out), Lib.hid (by rw [← HY.out]; exact M10.out), Lib.hid fun b h1 h2 => MD.out b h2 h1⟩
            case measure => first | (simp [intOf]; done) | (simp [intOf]; omega)
      · obtain rfl : m.length = k := by omega
        go_wp2
        go_ret3
        rw [ovR_ok HNO.out HSS.out]
        obtain ⟨A1, c1, rfl, i1⟩ := ints_ownN H9.out rfl
        obtain ⟨A2, c2, rfl, i2⟩ := ints_ownN H10.out rfl
        have h3 := surelyL_le m (sF sl)
        exact ⟨A1, c1, A2, c2, rfl, i1, i2, by simp only; omega, by simp only; omega, hB1.trans (hB.mono hB1.size)⟩
end Go.Proofs.YtgdilbilhajgaaaDoor
