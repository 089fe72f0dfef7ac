/- The document's flows: the walk. -/
import Derived.Test.YtgdilbilhajgaaaDoorD2
namespace Go.Proofs.YtgdilbilhajgaaaDoor
set_option linter.unusedVariables false
set_option linter.unusedSimpArgs false
open Go Go.RowKit

/-- What has been done of the region that lays the two spans: boxes 17 and 18, filled by 19 and 20. -/
def J14 (w0 : World) (d1 d2 r1 r2 : Int) (kv : Nat → Option Value) (l : Nat → Bool) (val : Nat → Value) (W : World) : Prop :=
  Below w0.heap.size w0 W ∧ (∀ k u, l k = true → kv k = some u → val k = u) ∧
  (l 17 = true → ∃ b, val 17 = .pointer (some ⟨b, 0, none⟩) ∧ w0.heap.size ≤ b ∧ Box W b (if l 19 = true then [I d1, I d2] else [I 0, I 0])) ∧
  (l 18 = true → ∃ b, val 18 = .pointer (some ⟨b, 0, none⟩) ∧ w0.heap.size ≤ b ∧ Box W b (if l 20 = true then [I r1, I r2] else [I 0, I 0])) ∧
  (l 17 = true → l 18 = true → val 17 ≠ val 18) ∧ (l 19 = true → l 17 = true) ∧ (l 20 = true → l 18 = true)
section
variable {w0 W W' : World} {d1 d2 r1 r2 : Int} {kv : Nat → Option Value} {l : Nat → Bool} {val : Nat → Value}
theorem J14.start (w0 : World) (d1 d2 r1 r2 : Int) (kv : Nat → Option Value) : J14 w0 d1 d2 r1 r2 kv (fun _ => false) (fun _ => undef) w0.drew :=
  ⟨(Below.refl _ _).drew, fun _ _ h => (by cases h), fun h => (by cases h), fun h => (by cases h), fun h => (by cases h), fun h => (by cases h), fun h => (by cases h)⟩
theorem J14.not19 (h : J14 w0 d1 d2 r1 r2 kv l val W) (hl : l 19 = false) : (if l 19 = true then [I d1, I d2] else [I 0, I 0]) = [I 0, I 0] := by rw [hl]; rfl
theorem J14.not20 (h : J14 w0 d1 d2 r1 r2 kv l val W) (hl : l 20 = false) : (if l 20 = true then [I r1, I r2] else [I 0, I 0]) = [I 0, I 0] := by rw [hl]; rfl
theorem J14.light (h : J14 w0 d1 d2 r1 r2 kv l val W) (i : Nat) (hi : i ≠ 17 ∧ i ≠ 18 ∧ i ≠ 19 ∧ i ≠ 20) (v : Value) (hv : ∀ u, kv i = some u → v = u) (hB : Below W.heap.size W W') :
    J14 w0 d1 d2 r1 r2 kv (fun j => j == i || l j) (fun j => if j = i then v else val j) W' := by
  obtain ⟨h1, h2, h3, h4, h5, h6, h7⟩ := h
  obtain ⟨a17, a18, a19, a20⟩ := hi
  have q17 : (17 == i) = false := by simpa using fun e => a17 e.symm
  have q18 : (18 == i) = false := by simpa using fun e => a18 e.symm
  have q19 : (19 == i) = false := by simpa using fun e => a19 e.symm
  have q20 : (20 == i) = false := by simpa using fun e => a20 e.symm
  have z17 : ¬ 17 = i := fun e => a17 e.symm
  have z18 : ¬ 18 = i := fun e => a18 e.symm
  refine ⟨h1.trans (hB.mono h1.size), fun k u hk hu => ?_, fun hk => ?_, fun hk => ?_, fun hk hk' => ?_, fun hk => ?_, fun hk => ?_⟩
  · by_cases e : k = i
    · subst e
      simp only [if_true]
      exact hv u hu
    · simp only [e, if_false]
      exact h2 k u (by simpa [e] using hk) hu
  · simp only [q17, Bool.false_or] at hk
    obtain ⟨b, e1, e2, e3⟩ := h3 hk
    simp only [z17, if_false, q19, Bool.false_or]
    exact ⟨b, e1, e2, e3.call hB⟩
  · simp only [q18, Bool.false_or] at hk
    obtain ⟨b, e1, e2, e3⟩ := h4 hk
    simp only [z18, if_false, q20, Bool.false_or]
    exact ⟨b, e1, e2, e3.call hB⟩
  · simp only [q17, q18, Bool.false_or] at hk hk'
    simp only [z17, z18, if_false]
    exact h5 hk hk'
  · simp only [q17, q19, Bool.false_or] at hk ⊢
    exact h6 hk
  · simp only [q18, q20, Bool.false_or] at hk ⊢
    exact h7 hk
theorem J14.alloc17 (h : J14 w0 d1 d2 r1 r2 kv l val W) (hl : l 17 = false) (hk17 : kv 17 = none := by rfl) :
    J14 w0 d1 d2 r1 r2 kv (fun j => j == 17 || l j) (fun j => if j = 17 then .pointer (some ⟨W.heap.size, 0, none⟩) else val j) (W.alloc (.cells #[I 0, I 0] 39)) := by
  obtain ⟨h1, h2, h3, h4, h5, h6, h7⟩ := h
  have l19 : l 19 = false := by
    cases e : l 19
    · rfl
    · rw [h6 e] at hl; cases hl
  have hB : Below W.heap.size W (W.alloc (.cells #[I 0, I 0] 39)) := (Below.refl _ _).alloc (Nat.le_refl _) _
  refine ⟨h1.trans (hB.mono h1.size), fun k u hk hu => ?_, fun _ => ⟨W.heap.size, by simp, h1.size, ?_⟩, fun hk => ?_, fun _ hk' => ?_, fun hk => by simp, fun hk => ?_⟩
  · by_cases e : k = 17
    · subst e; rw [hk17] at hu; cases hu
    · simp only [e, if_false]
      exact h2 k u (by simpa [e] using hk) hu
  · simp only [show ((19 == 17) || l 19) = false by simpa using l19]
    exact Box.new W [I 0, I 0] 39
  · have hk : l 18 = true := by simpa using hk
    obtain ⟨b, e1, e2, e3⟩ := h4 hk
    refine ⟨b, by simpa using e1, e2, ?_⟩
    simpa using e3.call hB
  · have hk' : l 18 = true := by simpa using hk'
    obtain ⟨b, e1, e2, e3⟩ := h4 hk'
    have := e3.1
    simp [e1]
    try omega
  · simpa using h7 (by simpa using hk)
theorem J14.alloc18 (h : J14 w0 d1 d2 r1 r2 kv l val W) (hl : l 18 = false) (hk18 : kv 18 = none := by rfl) :
    J14 w0 d1 d2 r1 r2 kv (fun j => j == 18 || l j) (fun j => if j = 18 then .pointer (some ⟨W.heap.size, 0, none⟩) else val j) (W.alloc (.cells #[I 0, I 0] 39)) := by
  obtain ⟨h1, h2, h3, h4, h5, h6, h7⟩ := h
  have l20 : l 20 = false := by
    cases e : l 20
    · rfl
    · rw [h7 e] at hl; cases hl
  have hB : Below W.heap.size W (W.alloc (.cells #[I 0, I 0] 39)) := (Below.refl _ _).alloc (Nat.le_refl _) _
  refine ⟨h1.trans (hB.mono h1.size), fun k u hk hu => ?_, fun hk => ?_, fun _ => ⟨W.heap.size, by simp, h1.size, ?_⟩, fun hk' _ => ?_, fun hk => ?_, fun hk => by simp⟩
  · by_cases e : k = 18
    · subst e; rw [hk18] at hu; cases hu
    · simp only [e, if_false]
      exact h2 k u (by simpa [e] using hk) hu
  · have hk : l 17 = true := by simpa using hk
    obtain ⟨b, e1, e2, e3⟩ := h3 hk
    refine ⟨b, by simpa using e1, e2, ?_⟩
    simpa using e3.call hB
  · simp only [show ((20 == 18) || l 20) = false by simpa using l20]
    exact Box.new W [I 0, I 0] 39
  · have hk' : l 17 = true := by simpa using hk'
    obtain ⟨b, e1, e2, e3⟩ := h3 hk'
    have := e3.1
    simp [e1]
    try omega
  · simpa using h6 (by simpa using hk)
theorem J14.store19 (h : J14 w0 d1 d2 r1 r2 kv l val W) (hl : l 19 = false) (h17 : l 17 = true) {b : Nat} (hb : val 17 = .pointer (some ⟨b, 0, none⟩)) (v : Value) (hk19 : kv 19 = none := by rfl) :
    J14 w0 d1 d2 r1 r2 kv (fun j => j == 19 || l j) (fun j => if j = 19 then v else val j) ((W.setCell ⟨b, 0, none⟩ (I d1)).setCell ⟨b, 1, none⟩ (I d2)) := by
  obtain ⟨h1, h2, h3, h4, h5, h6, h7⟩ := h
  obtain ⟨b', e1, e2, e3⟩ := h3 h17
  rw [hb] at e1
  injection e1 with e1; injection e1 with e1; injection e1 with e1
  subst e1
  refine ⟨(h1.setCell e2 _).setCell e2 _, fun k u hk hu => ?_, fun _ => ⟨b, by simpa using hb, e2, ?_⟩, fun hk => ?_, fun _ hk' => ?_, fun _ => by simpa using h17, fun hk => ?_⟩
  · by_cases e : k = 19
    · subst e; rw [hk19] at hu; cases hu
    · simp only [e, if_false]
      exact h2 k u (by simpa [e] using hk) hu
  · rw [hl] at e3
    simpa using (e3.set 0 (I d1)).set 1 (I d2)
  · have hk : l 18 = true := by simpa using hk
    obtain ⟨b2, f1, f2, f3⟩ := h4 hk
    have hne := h5 h17 hk
    rw [hb, f1] at hne
    have hbb : b ≠ b2 := fun e => hne (by rw [e])
    refine ⟨b2, by simpa using f1, f2, ?_⟩
    simpa using (f3.far (p := ⟨b, 0, none⟩) (by simpa using hbb) (I d1)).far (p := ⟨b, 1, none⟩) (by simpa using hbb) (I d2)
  · have hk' : l 18 = true := by simpa using hk'
    simpa using h5 h17 hk'
  · simpa using h7 (by simpa using hk)
theorem J14.store20 (h : J14 w0 d1 d2 r1 r2 kv l val W) (hl : l 20 = false) (h18 : l 18 = true) {b : Nat} (hb : val 18 = .pointer (some ⟨b, 0, none⟩)) (v : Value) (hk20 : kv 20 = none := by rfl) :
    J14 w0 d1 d2 r1 r2 kv (fun j => j == 20 || l j) (fun j => if j = 20 then v else val j) ((W.setCell ⟨b, 0, none⟩ (I r1)).setCell ⟨b, 1, none⟩ (I r2)) := by
  obtain ⟨h1, h2, h3, h4, h5, h6, h7⟩ := h
  obtain ⟨b', e1, e2, e3⟩ := h4 h18
  rw [hb] at e1
  injection e1 with e1; injection e1 with e1; injection e1 with e1
  subst e1
  refine ⟨(h1.setCell e2 _).setCell e2 _, fun k u hk hu => ?_, fun hk => ?_, fun _ => ⟨b, by simpa using hb, e2, ?_⟩, fun hk' _ => ?_, fun hk => ?_, fun _ => by simpa using h18⟩
  · by_cases e : k = 20
    · subst e; rw [hk20] at hu; cases hu
    · simp only [e, if_false]
      exact h2 k u (by simpa [e] using hk) hu
  · have hk : l 17 = true := by simpa using hk
    obtain ⟨b2, f1, f2, f3⟩ := h3 hk
    have hne := h5 hk h18
    rw [hb, f1] at hne
    have hbb : b ≠ b2 := fun e => hne (by rw [e])
    refine ⟨b2, by simpa using f1, f2, ?_⟩
    simpa using (f3.far (p := ⟨b, 0, none⟩) (by simpa using hbb) (I r1)).far (p := ⟨b, 1, none⟩) (by simpa using hbb) (I r2)
  · rw [hl] at e3
    simpa using (e3.set 0 (I r1)).set 1 (I r2)
  · have hk' : l 17 = true := by simpa using hk'
    simpa using h5 hk' h18
  · simpa using h6 (by simpa using hk)
theorem J14.fin (h : J14 w0 d1 d2 r1 r2 kv l val W) (a : l 17 = true) (b : l 18 = true) (c : l 19 = true) (d : l 20 = true) :
    ∃ b10 b11, val 17 = .pointer (some ⟨b10, 0, none⟩) ∧ val 18 = .pointer (some ⟨b11, 0, none⟩) ∧ w0.heap.size ≤ b10 ∧ w0.heap.size ≤ b11 ∧ Box W b10 [I d1, I d2] ∧ Box W b11 [I r1, I r2] ∧ b10 ≠ b11 ∧ Below w0.heap.size w0 W := by
  obtain ⟨h1, h2, h3, h4, h5, h6, h7⟩ := h
  obtain ⟨b10, e1, e2, e3⟩ := h3 a
  obtain ⟨b11, f1, f2, f3⟩ := h4 b
  rw [c] at e3
  rw [d] at f3
  have hne := h5 a b
  rw [e1, f1] at hne
  exact ⟨b10, b11, e1, f1, e2, f2, by simpa using e3, by simpa using f3, fun e => hne (by rw [e]), h1⟩
end
/-- What the document's flows answer. -/
def Fl66 (m : List (Int × Int)) (l : List (Int × Int × Int)) (w : World) (e : Ending) (w' : World) : Prop :=
  Below w.heap.size w w' ∧ (((¬ ∃ x, Feas m l x) ∧ e = .returned (.tuple #[nilS, .bool false])) ∨ (∃ S sl, e = .returned (.tuple #[.slice (some ⟨S, 0, none⟩) m.length m.length, .bool true]) ∧ w.heap.size ≤ S ∧ SpB w' S sl ∧ sl.length = m.length ∧ IsSpans m l (sF sl)))
theorem up0_bd2 {m : List (Int × Int)} {l : List (Int × Int × Int)} {sl : List (Int × Int)} (hm : MOk m) {p : Nat} (h : Up0 m l p (sF sl)) (h0 : ∀ j, j < p → sF sl j = (0, 0)) : ∀ j, j < m.length → (-2000 ≤ (sF sl j).1 ∧ (sF sl j).1 ≤ 2000) ∧ -2000 ≤ (sF sl j).2 ∧ (sF sl j).2 ≤ 2000 := fun j hj => by
  rcases Nat.lt_or_ge j p with hp | hp
  · rw [h0 j hp]; simp
  · have := h.bd hm hp hj
    omega
/-- The state of the first loop, and of the second. -/
def D3a (m : List (Int × Int)) (l : List (Int × Int × Int)) (w : World) (S p : Nat) (W : World) : Prop := Below w.heap.size w W ∧ ∃ sl, SpB W S sl ∧ sl.length = m.length ∧ Up0 m l p (sF sl) ∧ ∀ j, j < p → sF sl j = (0, 0)
def D3b (m : List (Int × Int)) (l : List (Int × Int × Int)) (w : World) (S i : Nat) (W : World) : Prop := Below w.heap.size w W ∧ ∃ sl s, SpB W S sl ∧ sl.length = m.length ∧ DnP m l s (fun y => y < i) (sF sl)
theorem D3a.to {m : List (Int × Int)} {l : List (Int × Int × Int)} {w W : World} {S : Nat} (hm : MOk m) (h : D3a m l w S 0 W) : D3b m l w S 1 W := by
  obtain ⟨hB, sl, h1, h2, h3, _⟩ := h
  exact ⟨hB, sl, _, h1, h2, h3.dn hm⟩

set_option maxRecDepth 100000 in
set_option maxHeartbeats 8000000 in
theorem flows66 (A B : Option Addr) (c cb : Nat) (m : List (Int × Int)) (l : List (Int × Int × Int)) (w : World) (hok : MOk m) (hm : Pairs w w.heap.size A m) (hl : Threes w w.heap.size B l) (hll : l.length ≤ 9223372036854775807) :
    Calls Tryd.prog 66 #[.slice A m.length c, .slice B l.length cb] w (Fl66 m l w) := by
  have hn1 := hok.pos
  have hn16 := hok.le
  have HOK := Lib.hid hok
  have HWELL : Hid (∀ (i : Nat) W, Below w.heap.size w W → Calls Tryd.prog 29 #[.slice A m.length c, I i] W fun e w' => e = .returned (.bool (decide (kids m i = []))) ∧ Below W.heap.size W w') := Lib.hid fun i W hW => well29 A c i m W ((hm.below hW).more hW.size) (by omega)
  have HTOLD : Hid (∀ (i : Nat) W, Below w.heap.size w W → Calls Tryd.prog 70 #[.slice B l.length cb, I i] W fun e w' => e = .returned (.agg #[I (toldW l i).1, I (toldW l i).2]) ∧ Below W.heap.size W w') := Lib.hid fun i W hW => told70 B cb i l W ((hl.below hW).more hW.size) hll
  have HSUM : Hid (∀ S main not sl W, Below w.heap.size w W → SpB W S sl → sl.length = m.length → (∀ j, j < m.length → (-2000 ≤ (sF sl j).1 ∧ (sF sl j).1 ≤ 2000) ∧ -2000 ≤ (sF sl j).2 ∧ (sF sl j).2 ≤ 2000) →
      Calls Tryd.prog 88 #[.slice A m.length c, .slice (some ⟨S, 0, none⟩) m.length m.length, I main, I not] W fun e w' => e = .returned (.agg #[I (sumS m (sF sl) main not m.length).1, I (sumS m (sF sl) main not m.length).2]) ∧ Below W.heap.size W w') := Lib.hid fun S main not sl W hW hS hsl hbd =>
    sum88 A S c m.length m sl main not W ((hm.below hW).more hW.size) hS hsl hn16 hbd
  have HM := Lib.hid hm
  clear hm hl hok
  obtain ⟨i0, hi0, hi1, hi2, hi3⟩ := info_parts info39
  have hu : Tryd.prog.underlying 34 = some (.slice 39) := Tryd.underlying34
  have HU := Lib.hid hu; have HI0 := Lib.hid hi0; have HI1 := Lib.hid hi1; have HI2 := Lib.hid hi2; have HI3 := Lib.hid hi3
  clear hu hi0 hi1 hi2 hi3
  go_enter Tryd.func66, Tryd.ntmps66
  go_wp2_with (first
    | (at_make; refine wpList_make_full _ rfl _ _ 34 rfl w.heap.size 39 i0 (.agg #[I 0, I 0]) 2 HU.out HI0.out HI1.out HI2.out .i64 .i64 m.length m.length m.length rfl rfl rfl rfl (by rw [HI3.out]; omega) (by unfold maxLen; omega) (Nat.le_refl _) ?_; intro w1 hown hg; have HS1 := Lib.hid (spb_zero hown); have hB1 : Below w.heap.size w w1 := grown_below hg (Nat.le_refl _) (by simp); clear hown hg)
    | fail)
  obtain ⟨S, hS⟩ : ∃ S, S = w.heap.size := ⟨_, rfl⟩
  rw [← hS] at HS1 ⊢
  have hSw : w.heap.size ≤ S := by omega
  clear hS
  have HA0 : Hid (D3a m l w S m.length w1) := Lib.hid ⟨hB1, _, HS1.out, by simp, fun i h1 h2 => by omega, fun j hj => by simp [sF, List.getD, hj]⟩
  clear HS1 hB1
  go_loopw [7] (fun s7 wr => ∃ p : Nat, p ≤ m.length ∧ s7 = I ((p : Int) - 1) ∧ Hid (D3a m l w S p wr)) (fun s7 _ => (intOf s7 + 1).toNat)
  case atStart => exact ⟨m.length, Nat.le_refl _, by go_num, HA0⟩
  case round =>
    clear HA0
    obtain ⟨p, hp, rfl, HA⟩ := hrel
    by_cases hp0 : 0 < p
    · obtain ⟨i, rfl⟩ : ∃ i, p = i + 1 := ⟨p - 1, by omega⟩
      have e1 : ((i + 1 : Nat) : Int) - 1 = (i : Int) := by omega
      rw [e1]
      obtain ⟨hB, sl, hsp, hsl, hup, hz⟩ := HA.out
      have HSP := Lib.hid hsp
      have HUP := Lib.hid hup
      have HZ := Lib.hid hz
      have hbd := up0_bd2 HOK.out hup hz
      have HBD := Lib.hid hbd
      have hSz := hsp.1
      clear hsp hup hz hbd HA
      have him : i < m.length := by omega
      have hst := Up0.step HOK.out him HUP.out (s' := sF (sl.set i (andS (ownW m (sF sl) i) (toldW l i)))) (fun k => sF_set (by omega) _ k)
      have hstv : sF (sl.set i (andS (ownW m (sF sl) i) (toldW l i))) i = andS (ownW m (sF sl) i) (toldW l i) := by rw [sF_set (by omega), if_pos rfl]
      rw [hstv] at hst
      have HST := Lib.hid hst
      clear hst hstv
      obtain ⟨o, ho⟩ : ∃ o, o = ownW m (sF sl) i := ⟨_, rfl⟩
      rw [← ho] at HST
      have p0 : (0 : Int) ≤ (i : Int) := by omega
      have p1 : (i : Int) < (m.length : Int) := by omega
      have hwz := hB.size
      have hBa : Below w.heap.size w (wr.alloc (.cells #[I 0, I 100] 39)) := hB.alloc hwz _
      have HBa : Hid (Box (wr.alloc (.cells #[I 0, I 100] 39)) wr.heap.size [I 0, I 100]) := Lib.hid (Box.new wr [I 0, I 100] 39)
      have HSa := Lib.hid (HSP.out.alloc (.cells #[I 0, I 100] 39))
      by_cases hk : kids m i = []
      · have ho' : o = (0, 100) := by rw [ho]; unfold ownW; rw [if_pos hk]
        have hkb : decide (kids m i = []) = true := decide_eq_true hk
        clear ho hk
        subst ho'
        go_wp2_with (first
          | (go_at_call 29; refine (HWELL.out i _ hBa).mono ?_; rw [hkb]; rintro e W0 ⟨rfl, hB2⟩; have HX0 := Lib.hid (HBa.out.call hB2); have HS0 := Lib.hid (HSa.out.call hB2); have hB0 := hBa.trans (hB2.mono hBa.size); clear hB2)
          | fail)
        clear HSa HBa hBa hB HSP hkb
        simp only [andS] at HST
        -- region 8: world W0, box wr.heap.size holds o; HX0, HS0, hB0
        have hBW0 := hB0
        have hz0 := hB0.size
        have hob := HX0.out.1
        have HCE : Hid (∀ W, Below W0.heap.size W0 W → W.cell? ⟨wr.heap.size, 0, none⟩ = some (I 0) ∧ W.cell? ⟨wr.heap.size, 1, none⟩ = some (I 100)) := Lib.hid fun W hW => ⟨((HX0.out.call hW).at_ 0 _ rfl).1, ((HX0.out.call hW).at_ 1 _ rfl).1⟩
        have HB0 := Lib.hid hB0
        clear hB0 hBW0
        refine (wpIn_wide (n := 9)).1 ?_
        refine wpIn_region_plan (Plan.ons [0, 1, 2, 3, 4, 5, 6, 7, 8] .fin) [0, 1, 2] (fun W' => Below W0.heap.size W0 W') [8] rfl (by kernel_rfl) (by kernel_rfl) (fun _ d _ _ _ h => by cases d <;> exact h) (Below.refl _ _).drew ?_
        (refine ordQ_held (.slice (some ⟨S, 0, none⟩) m.length m.length) rfl rfl rfl rfl (fun W' hC' => ?_) (fun K hK => ?_); (focus (obtain _ := HCE.out _ hC'; go_simp; try exact ⟨rfl, rfl⟩)); go_simp; refine hK _ ?_; clear hK K)
        (refine ordQ_held (I i) rfl rfl rfl rfl (fun W' hC' => ?_) (fun K hK => ?_); (focus (obtain _ := HCE.out _ hC'; go_simp; try exact ⟨rfl, rfl⟩)); go_simp; refine hK _ ?_; clear hK K)
        (refine ordQ_held (.agg #[I 0, I 100]) rfl rfl rfl rfl (fun W' hC' => ?_) (fun K hK => ?_); (focus (obtain ⟨e0, e1⟩ := HCE.out _ hC'; go_simp; try exact ⟨rfl, rfl⟩)); go_simp; refine hK _ ?_; clear hK K)
        iterate 2 (refine ordQ_li rfl rfl rfl (fun K hK => ?_); go_simp; refine hK _ ?_; clear hK K)
        refine ordQ_hv rfl rfl rfl (fun K hK => ?_)
        gi_wp2_with (refine And.intro trivial ?_; gi_at_call 70; refine callsIn_wide.2 ((HTOLD.out i _ (HB0.out.trans (((Below.refl _ _).drew).mono hz0))).mono ?_); rintro e w3 ⟨rfl, hB3⟩)
        have hb3 : Below W0.heap.size W0 w3 := by simpa using (Below.refl _ _).drew.trans hB3
        refine hK _ _ (fun _ => hb3) ?_
        clear hK K hB3
        refine ordQ_hv rfl rfl rfl (fun K hK => ?_)
        gi_wp2_with (refine And.intro trivial ?_; gi_at_call 89; refine callsIn_wide.2 ((both89 _ _ _ _ _).mono ?_); rintro e w4 ⟨rfl, hB4⟩)
        have hb4 : Below W0.heap.size W0 w4 := hb3.trans (hB4.mono hb3.size)
        refine hK _ _ (fun _ => hb4) ?_
        clear hK K hB4
        have HS4 := Lib.hid (HS0.out.call hb4)
        obtain ⟨s1, s2, s3, s4⟩ := HS4.out.2 i (by omega)
        (refine ordQ_li rfl rfl rfl (fun K hK => ?_); go_simp; refine hK _ ?_; clear hK K)
        refine ordQ_hv rfl rfl rfl (fun K hK => ?_)
        gi_wp2
        refine hK _ _ (fun h => by cases h) ?_
        clear hK K
        refine ordQ_fin ?_
        have HS8 : Hid (SpB ((w4.setCell ⟨S, i * 2, none⟩ (I (max 0 (toldW l i).1))).setCell ⟨S, i * 2 + 1, none⟩ (I (min 100 (toldW l i).2))) S (sl.set i (max 0 (toldW l i).1, min 100 (toldW l i).2))) := Lib.hid (HS4.out.set i (by omega) _ _)
        have hB8 : Below w.heap.size w ((w4.setCell ⟨S, i * 2, none⟩ (I (max 0 (toldW l i).1))).setCell ⟨S, i * 2 + 1, none⟩ (I (min 100 (toldW l i).2))) := ((HB0.out.trans (hb4.mono hz0)).setCell hSw _).setCell hSw _
        clear s1 s2 s3 s4 HS4 hb4 hb3 HCE HX0 HS0 hob HB0
        generalize (w4.setCell ⟨S, i * 2, none⟩ (I (max 0 (toldW l i).1))).setCell ⟨S, i * 2 + 1, none⟩ (I (min 100 (toldW l i).2)) = W8 at *
        obtain ⟨s1, s2, _, _⟩ := HS8.out.2 i (by simp; omega)
        simp only [List.getElem_set_self] at s1 s2
        by_cases hle : max 0 (toldW l i).1 ≤ min 100 (toldW l i).2
        · have hgt : decide (min 100 (toldW l i).2 < max 0 (toldW l i).1) = false := decide_eq_false (by omega)
          have HLE := Lib.hid hle
          clear hle
          go_wp2_with (fail)
          go_quiet (fail)
          go_wp2
          go_roundw
          case rel => exact ⟨i, by omega, by go_num, Lib.hid ⟨below_drewN hB8 _, _, HS8.out.drewN _, by simpa using hsl, HST.out.1 HLE.out, fun j hj => by rw [sF_set (by omega), if_neg (by omega)]; exact HZ.out j (by omega)⟩⟩
          case measure => first | (simp [intOf]; done) | (simp [intOf]; omega)
        · have hgt : decide (min 100 (toldW l i).2 < max 0 (toldW l i).1) = true := decide_eq_true (by omega)
          have HLE := Lib.hid hle
          clear hle
          go_wp2_with (fail)
          go_quiet (fail)
          go_wp2
          go_ret2
          exact ⟨below_drewN hB8 _, .inl ⟨HST.out.2 (by have := HLE.out; omega), rfl⟩⟩
      · have ho' : o = sumS m (sF sl) (i : Int) (-1) m.length := by rw [ho, sum_kids]; unfold ownW; rw [if_neg hk]
        have hkb : decide (kids m i = []) = false := decide_eq_false hk
        have HHO := Lib.hid ho'
        clear ho hk ho'
        go_wp2_with (first
          | (go_at_call 29; refine (HWELL.out i _ hBa).mono ?_; rw [hkb]; rintro e W2 ⟨rfl, hB2⟩; have HX2 := Lib.hid (HBa.out.call hB2); have HS2 := Lib.hid (HSa.out.call hB2); have hBw := hBa.trans (hB2.mono hBa.size); clear hB2)
          | (go_at_call 88; refine (HSUM.out S i (-1) sl W2 hBw HS2.out hsl HBD.out).mono ?_; rw [← HHO.out]; rintro e W3 ⟨rfl, hB3⟩; have HX3 := Lib.hid (HX2.out.call hB3); have HS3 := Lib.hid (HS2.out.call hB3); have hBw3 := hBw.trans (hB3.mono hBw.size); obtain ⟨x0, y0⟩ := HX3.out.at_ 0 _ rfl; obtain ⟨x1, y1⟩ := HX3.out.at_ 1 _ rfl; clear hB3)
          | fail)
        have HX0 : Hid (Box ((W3.setCell ⟨wr.heap.size, 0, none⟩ (I o.1)).setCell ⟨wr.heap.size, 1, none⟩ (I o.2)) wr.heap.size [I o.1, I o.2]) := Lib.hid ((HX3.out.set 0 _).set 1 _)
        have HS0 : Hid (SpB ((W3.setCell ⟨wr.heap.size, 0, none⟩ (I o.1)).setCell ⟨wr.heap.size, 1, none⟩ (I o.2)) S sl) := Lib.hid ((HS3.out.far (by simp; omega) _).far (by simp; omega) _)
        have hB0 : Below w.heap.size w ((W3.setCell ⟨wr.heap.size, 0, none⟩ (I o.1)).setCell ⟨wr.heap.size, 1, none⟩ (I o.2)) := (hBw3.setCell hwz _).setCell hwz _
        clear HX2 HX3 HS2 HS3 hBw hBw3 x0 x1 y0 y1 HSa HBa hBa hB HSP hkb HHO
        generalize (W3.setCell ⟨wr.heap.size, 0, none⟩ (I o.1)).setCell ⟨wr.heap.size, 1, none⟩ (I o.2) = W0 at *
        obtain ⟨o1, o2⟩ := o
        simp only [andS] at HST
        -- region 8: world W0, box wr.heap.size holds o; HX0, HS0, hB0
        have hBW0 := hB0
        have hz0 := hB0.size
        have hob := HX0.out.1
        have HCE : Hid (∀ W, Below W0.heap.size W0 W → W.cell? ⟨wr.heap.size, 0, none⟩ = some (I o1) ∧ W.cell? ⟨wr.heap.size, 1, none⟩ = some (I o2)) := Lib.hid fun W hW => ⟨((HX0.out.call hW).at_ 0 _ rfl).1, ((HX0.out.call hW).at_ 1 _ rfl).1⟩
        have HB0 := Lib.hid hB0
        clear hB0 hBW0
        refine (wpIn_wide (n := 9)).1 ?_
        refine wpIn_region_plan (Plan.ons [0, 1, 2, 3, 4, 5, 6, 7, 8] .fin) [0, 1, 2] (fun W' => Below W0.heap.size W0 W') [8] rfl (by kernel_rfl) (by kernel_rfl) (fun _ d _ _ _ h => by cases d <;> exact h) (Below.refl _ _).drew ?_
        (refine ordQ_held (.slice (some ⟨S, 0, none⟩) m.length m.length) rfl rfl rfl rfl (fun W' hC' => ?_) (fun K hK => ?_); (focus (obtain _ := HCE.out _ hC'; go_simp; try exact ⟨rfl, rfl⟩)); go_simp; refine hK _ ?_; clear hK K)
        (refine ordQ_held (I i) rfl rfl rfl rfl (fun W' hC' => ?_) (fun K hK => ?_); (focus (obtain _ := HCE.out _ hC'; go_simp; try exact ⟨rfl, rfl⟩)); go_simp; refine hK _ ?_; clear hK K)
        (refine ordQ_held (.agg #[I o1, I o2]) rfl rfl rfl rfl (fun W' hC' => ?_) (fun K hK => ?_); (focus (obtain ⟨e0, e1⟩ := HCE.out _ hC'; go_simp; try exact ⟨rfl, rfl⟩)); go_simp; refine hK _ ?_; clear hK K)
        iterate 2 (refine ordQ_li rfl rfl rfl (fun K hK => ?_); go_simp; refine hK _ ?_; clear hK K)
        refine ordQ_hv rfl rfl rfl (fun K hK => ?_)
        gi_wp2_with (refine And.intro trivial ?_; gi_at_call 70; refine callsIn_wide.2 ((HTOLD.out i _ (HB0.out.trans (((Below.refl _ _).drew).mono hz0))).mono ?_); rintro e w3 ⟨rfl, hB3⟩)
        have hb3 : Below W0.heap.size W0 w3 := by simpa using (Below.refl _ _).drew.trans hB3
        refine hK _ _ (fun _ => hb3) ?_
        clear hK K hB3
        refine ordQ_hv rfl rfl rfl (fun K hK => ?_)
        gi_wp2_with (refine And.intro trivial ?_; gi_at_call 89; refine callsIn_wide.2 ((both89 _ _ _ _ _).mono ?_); rintro e w4 ⟨rfl, hB4⟩)
        have hb4 : Below W0.heap.size W0 w4 := hb3.trans (hB4.mono hb3.size)
        refine hK _ _ (fun _ => hb4) ?_
        clear hK K hB4
        have HS4 := Lib.hid (HS0.out.call hb4)
        obtain ⟨s1, s2, s3, s4⟩ := HS4.out.2 i (by omega)
        (refine ordQ_li rfl rfl rfl (fun K hK => ?_); go_simp; refine hK _ ?_; clear hK K)
        refine ordQ_hv rfl rfl rfl (fun K hK => ?_)
        gi_wp2
        refine hK _ _ (fun h => by cases h) ?_
        clear hK K
        refine ordQ_fin ?_
        have HS8 : Hid (SpB ((w4.setCell ⟨S, i * 2, none⟩ (I (max o1 (toldW l i).1))).setCell ⟨S, i * 2 + 1, none⟩ (I (min o2 (toldW l i).2))) S (sl.set i (max o1 (toldW l i).1, min o2 (toldW l i).2))) := Lib.hid (HS4.out.set i (by omega) _ _)
        have hB8 : Below w.heap.size w ((w4.setCell ⟨S, i * 2, none⟩ (I (max o1 (toldW l i).1))).setCell ⟨S, i * 2 + 1, none⟩ (I (min o2 (toldW l i).2))) := ((HB0.out.trans (hb4.mono hz0)).setCell hSw _).setCell hSw _
        clear s1 s2 s3 s4 HS4 hb4 hb3 HCE HX0 HS0 hob HB0
        generalize (w4.setCell ⟨S, i * 2, none⟩ (I (max o1 (toldW l i).1))).setCell ⟨S, i * 2 + 1, none⟩ (I (min o2 (toldW l i).2)) = W8 at *
        obtain ⟨s1, s2, _, _⟩ := HS8.out.2 i (by simp; omega)
        simp only [List.getElem_set_self] at s1 s2
        by_cases hle : max o1 (toldW l i).1 ≤ min o2 (toldW l i).2
        · have hgt : decide (min o2 (toldW l i).2 < max o1 (toldW l i).1) = false := decide_eq_false (by omega)
          have HLE := Lib.hid hle
          clear hle
          go_wp2_with (fail)
          go_quiet (fail)
          go_wp2
          go_roundw
          case rel => exact ⟨i, by omega, by go_num, Lib.hid ⟨below_drewN hB8 _, _, HS8.out.drewN _, by simpa using hsl, HST.out.1 HLE.out, fun j hj => by rw [sF_set (by omega), if_neg (by omega)]; exact HZ.out j (by omega)⟩⟩
          case measure => first | (simp [intOf]; done) | (simp [intOf]; omega)
        · have hgt : decide (min o2 (toldW l i).2 < max o1 (toldW l i).1) = true := decide_eq_true (by omega)
          have HLE := Lib.hid hle
          clear hle
          go_wp2_with (fail)
          go_quiet (fail)
          go_wp2
          go_ret2
          exact ⟨below_drewN hB8 _, .inl ⟨HST.out.2 (by have := HLE.out; omega), rfl⟩⟩
    · obtain rfl : p = 0 := by omega
      have e1 : ((0 : Nat) : Int) - 1 = -1 := rfl
      rw [e1]
      have HB1 : Hid (D3b m l w S 1 wr) := Lib.hid (HA.out.to HOK.out)
      clear HA
      go_wp2_with (fail)
      go_loopw [9] (fun s9 wq => ∃ i : Nat, 1 ≤ i ∧ i ≤ m.length ∧ s9 = I i ∧ Hid (D3b m l w S i wq)) (fun s9 _ => m.length - (intOf s9).toNat)
      case atStart => exact ⟨1, Nat.le_refl _, hn1, rfl, HB1⟩
      case round =>
        clear HB1

        obtain ⟨i, hi1, hi, rfl, HB⟩ := hrel
        by_cases him : i < m.length
        · obtain ⟨hB, sl, s, hsp, hsl, hdn⟩ := HB.out
          have HDN := Lib.hid hdn
          have HSP := Lib.hid hsp
          have hSz := hsp.1
          obtain ⟨q1, q2, _⟩ := par_nat HOK.out hi1 him
          obtain ⟨q, hq⟩ : ∃ q : Nat, parW m i = (q : Int) := ⟨(parW m i).toNat, q1.symm⟩
          have hqi : q < i := by rw [hq] at q2; simpa using q2
          have HBK := Lib.hid (fun (v : Int × Int) (d' : Nat → Int × Int) => back_step (v := v) (d' := d') HOK.out hdn hi1 him)
          rw [hq, Int.toNat_natCast] at HBK
          have bq := hdn.bd HOK.out q (by omega)
          have bi := hdn.bd HOK.out i him
          have hbd : ∀ j, j < m.length → (-2000 ≤ (sF sl j).1 ∧ (sF sl j).1 ≤ 2000) ∧ -2000 ≤ (sF sl j).2 ∧ (sF sl j).2 ≤ 2000 := fun j hj => by have := hdn.bd HOK.out j hj; omega
          have hsb := sumS_bd (m := m) (q : Int) (i : Int) m.length (fun j hj => hbd j hj)
          have HBD := Lib.hid hbd
          obtain ⟨b, o, hAe, hbz, hcs⟩ := HM.out.below hB (by omega)
          subst hAe
          have hc0 := (hcs i him).1
          have hme : m[i].1 = parW m i := by simp [parW, List.getD, him]
          rw [hme, hq] at hc0
          have hqs : q < sl.length := by omega
          have his : i < sl.length := by omega
          obtain ⟨d0c, d1c, _, _⟩ := hsp.2 q hqs
          obtain ⟨s0c, s1c, _, _⟩ := hsp.2 i his
          have hse : sl[q] = sF sl q := by simp [sF, List.getD, hqs]
          have hsi : sl[i] = sF sl i := by simp [sF, List.getD, his]
          rw [hse] at d0c d1c
          rw [hsi] at s0c s1c
          obtain ⟨rs, hrs⟩ : ∃ rs, rs = sumS m (sF sl) (q : Int) (i : Int) m.length := ⟨_, rfl⟩
          have HSU : Hid (∀ W, Below wr.heap.size wr W → Calls Tryd.prog 88 #[.slice (some ⟨b, o, none⟩) m.length c, .slice (some ⟨S, 0, none⟩) m.length m.length, I q, I i] W fun e w' => e = .returned (.agg #[I rs.1, I rs.2]) ∧ Below W.heap.size W w') := Lib.hid fun W hW => by
            rw [hrs]
            exact HSUM.out S q i sl W (hB.trans (hW.mono hB.size)) (hsp.call hW) hsl hbd
          rw [← hrs] at HBK hsb
          clear hrs hcs hme hse hsi hdn hsp hbd HB q1 q2 hq HWELL HTOLD HSUM
          have HCE : Hid (∀ W, Below wr.heap.size wr W → W.cell? ⟨b, o + i * 2, none⟩ = some (I q) ∧ W.cell? ⟨S, q * 2, none⟩ = some (I (sF sl q).1) ∧ W.cell? ⟨S, q * 2 + 1, none⟩ = some (I (sF sl q).2) ∧ W.cell? ⟨S, i * 2, none⟩ = some (I (sF sl i).1) ∧ W.cell? ⟨S, i * 2 + 1, none⟩ = some (I (sF sl i).2)) := Lib.hid fun W hW =>
            ⟨(hW.cell (p := ⟨_, _, none⟩) (Nat.lt_of_lt_of_le hbz hB.size)).trans hc0, (hW.cell (p := ⟨_, _, none⟩) hSz).trans d0c, (hW.cell (p := ⟨_, _, none⟩) hSz).trans d1c, (hW.cell (p := ⟨_, _, none⟩) hSz).trans s0c, (hW.cell (p := ⟨_, _, none⟩) hSz).trans s1c⟩
          clear hc0 d0c d1c s0c s1c
          generalize sF sl q = dd at *
          obtain ⟨d1, d2⟩ := dd
          obtain ⟨r1, r2⟩ := rs
          generalize hss : sF sl i = ss at *
          obtain ⟨s1, s2⟩ := ss
          simp only at HCE HSU HBK hsb bq bi
          have p0 : (0 : Int) ≤ (i : Int) := by omega
          have p1 : (i : Int) < (m.length : Int) := by omega
          have p2 : (0 : Int) ≤ (q : Int) := by omega
          have p3 : (q : Int) < (m.length : Int) := by omega
          have g1 : IntKind.i64.wrap (d1 - r2) = d1 - r2 := IntWalk.i64_in _ (by omega)
          have g2 : IntKind.i64.wrap (d2 - r1) = d2 - r1 := IntWalk.i64_in _ (by omega)
          have HB := Lib.hid hB
          have hz := hB.size
          clear bq bi hsb hB
          go_wp2_with (fail)
          refine (wpIn_wide (n := 9)).1 ?_
          refine wpIn_region_jointL [some 56, some 57, some 58, some 59, some 60, some 61, some 62, some 63, some 64, some 65, some 66, some 67, some 68, some 69, some 70, some 71, some 72, some 10, some 11, none, none] (J14 wr d1 d2 r1 r2 (fun k => [.slice (some ⟨S, 0, none⟩) m.length m.length, .slice (some ⟨b, o, none⟩) m.length c, I i, .pointer (some ⟨b, o + i * 2, none⟩), .pointer (some ⟨b, o + i * 2, none⟩), I q, .pointer (some ⟨S, q * 2, none⟩), .agg #[I d1, I d2], .slice (some ⟨b, o, none⟩) m.length c, .slice (some ⟨S, 0, none⟩) m.length m.length, .slice (some ⟨b, o, none⟩) m.length c, I i, .pointer (some ⟨b, o + i * 2, none⟩), .pointer (some ⟨b, o + i * 2, none⟩), I q, I i, .agg #[I r1, I r2]][k]?)) rfl (by kernel_rfl) (by kernel_rfl) (by kernel_rfl) (fun _ d _ _ _ h => by cases d <;> exact h) (J14.start _ _ _ _ _ _) ?_ ?_
          · refine ⟨?_, ?_, ?_, ?_, ?_, ?_, ?_, ?_, ?_, ?_, ?_, ?_, ?_, ?_, ?_, ?_, ?_, ?_, ?_, ?_, ?_, trivial⟩
            · (intro val l vo W hli hd hJ K hK; have HK := Lib.hid hK; have HD := Lib.hid hd; have HJ := Lib.hid hJ; have HLI := Lib.hid hli; clear hK hd hJ hli; simp only [putD, Act.put, List.setIfInBounds_toArray, List.set_cons_succ, List.set_cons_zero, Nat.zero_add, Nat.reduceAdd] at HK ⊢; refine ⟨rfl, ?_⟩)
              obtain ⟨e0, e1, e2, e3, e4⟩ := HCE.out W HJ.out.1
              gi_wp2
              exact HK.out _ _ (HJ.out.light 0 (by decide) _ (fun u hu => by cases hu; rfl) (Below.refl _ _))
            · (intro val l vo W hli hd hJ K hK; have HK := Lib.hid hK; have HD := Lib.hid hd; have HJ := Lib.hid hJ; have HLI := Lib.hid hli; clear hK hd hJ hli; simp only [putD, Act.put, List.setIfInBounds_toArray, List.set_cons_succ, List.set_cons_zero, Nat.zero_add, Nat.reduceAdd] at HK ⊢; refine ⟨rfl, ?_⟩)
              obtain ⟨e0, e1, e2, e3, e4⟩ := HCE.out W HJ.out.1
              gi_wp2
              exact HK.out _ _ (HJ.out.light 1 (by decide) _ (fun u hu => by cases hu; rfl) (Below.refl _ _))
            · (intro val l vo W hli hd hJ K hK; have HK := Lib.hid hK; have HD := Lib.hid hd; have HJ := Lib.hid hJ; have HLI := Lib.hid hli; clear hK hd hJ hli; simp only [putD, Act.put, List.setIfInBounds_toArray, List.set_cons_succ, List.set_cons_zero, Nat.zero_add, Nat.reduceAdd] at HK ⊢; refine ⟨rfl, ?_⟩)
              obtain ⟨e0, e1, e2, e3, e4⟩ := HCE.out W HJ.out.1
              gi_wp2
              exact HK.out _ _ (HJ.out.light 2 (by decide) _ (fun u hu => by cases hu; rfl) (Below.refl _ _))
            · (intro val l vo W hli hd hJ K hK; have HK := Lib.hid hK; have HD := Lib.hid hd; have HJ := Lib.hid hJ; have HLI := Lib.hid hli; clear hK hd hJ hli; simp only [putD, Act.put, List.setIfInBounds_toArray, List.set_cons_succ, List.set_cons_zero, Nat.zero_add, Nat.reduceAdd] at HK ⊢; refine ⟨rfl, ?_⟩)
              obtain ⟨e0, e1, e2, e3, e4⟩ := HCE.out W HJ.out.1
              have v1 : val 1 = .slice (some ⟨b, o, none⟩) m.length c := (HD.out.1.2).trans (HJ.out.2.1 1 _ HD.out.1.1 rfl)
              have v2 : val 2 = I i := (HD.out.2.1.2).trans (HJ.out.2.1 2 _ HD.out.2.1.1 rfl)
              rw [v1, v2] at HK ⊢
              gi_wp2
              exact HK.out _ _ (HJ.out.light 3 (by decide) _ (fun u hu => by cases hu; rfl) (Below.refl _ _))
            · (intro val l vo W hli hd hJ K hK; have HK := Lib.hid hK; have HD := Lib.hid hd; have HJ := Lib.hid hJ; have HLI := Lib.hid hli; clear hK hd hJ hli; simp only [putD, Act.put, List.setIfInBounds_toArray, List.set_cons_succ, List.set_cons_zero, Nat.zero_add, Nat.reduceAdd] at HK ⊢; refine ⟨rfl, ?_⟩)
              obtain ⟨e0, e1, e2, e3, e4⟩ := HCE.out W HJ.out.1
              have v3 : val 3 = .pointer (some ⟨b, o + i * 2, none⟩) := (HD.out.1.2).trans (HJ.out.2.1 3 _ HD.out.1.1 rfl)
              rw [v3] at HK ⊢
              gi_wp2
              exact HK.out _ _ (HJ.out.light 4 (by decide) _ (fun u hu => by cases hu; rfl) (Below.refl _ _))
            · (intro val l vo W hli hd hJ K hK; have HK := Lib.hid hK; have HD := Lib.hid hd; have HJ := Lib.hid hJ; have HLI := Lib.hid hli; clear hK hd hJ hli; simp only [putD, Act.put, List.setIfInBounds_toArray, List.set_cons_succ, List.set_cons_zero, Nat.zero_add, Nat.reduceAdd] at HK ⊢; refine ⟨rfl, ?_⟩)
              obtain ⟨e0, e1, e2, e3, e4⟩ := HCE.out W HJ.out.1
              have v4 : val 4 = .pointer (some ⟨b, o + i * 2, none⟩) := (HD.out.1.2).trans (HJ.out.2.1 4 _ HD.out.1.1 rfl)
              rw [v4] at HK ⊢
              gi_wp2
              exact HK.out _ _ (HJ.out.light 5 (by decide) _ (fun u hu => by cases hu; rfl) (Below.refl _ _))
            · (intro val l vo W hli hd hJ K hK; have HK := Lib.hid hK; have HD := Lib.hid hd; have HJ := Lib.hid hJ; have HLI := Lib.hid hli; clear hK hd hJ hli; simp only [putD, Act.put, List.setIfInBounds_toArray, List.set_cons_succ, List.set_cons_zero, Nat.zero_add, Nat.reduceAdd] at HK ⊢; refine ⟨rfl, ?_⟩)
              obtain ⟨e0, e1, e2, e3, e4⟩ := HCE.out W HJ.out.1
              have v0 : val 0 = .slice (some ⟨S, 0, none⟩) m.length m.length := (HD.out.1.2).trans (HJ.out.2.1 0 _ HD.out.1.1 rfl)
              have v5 : val 5 = I q := (HD.out.2.1.2).trans (HJ.out.2.1 5 _ HD.out.2.1.1 rfl)
              rw [v0, v5] at HK ⊢
              gi_wp2
              exact HK.out _ _ (HJ.out.light 6 (by decide) _ (fun u hu => by cases hu; rfl) (Below.refl _ _))
            · (intro val l vo W hli hd hJ K hK; have HK := Lib.hid hK; have HD := Lib.hid hd; have HJ := Lib.hid hJ; have HLI := Lib.hid hli; clear hK hd hJ hli; simp only [putD, Act.put, List.setIfInBounds_toArray, List.set_cons_succ, List.set_cons_zero, Nat.zero_add, Nat.reduceAdd] at HK ⊢; refine ⟨rfl, ?_⟩)
              obtain ⟨e0, e1, e2, e3, e4⟩ := HCE.out W HJ.out.1
              have v6 : val 6 = .pointer (some ⟨S, q * 2, none⟩) := (HD.out.1.2).trans (HJ.out.2.1 6 _ HD.out.1.1 rfl)
              rw [v6] at HK ⊢
              gi_wp2
              exact HK.out _ _ (HJ.out.light 7 (by decide) _ (fun u hu => by cases hu; rfl) (Below.refl _ _))
            · (intro val l vo W hli hd hJ K hK; have HK := Lib.hid hK; have HD := Lib.hid hd; have HJ := Lib.hid hJ; have HLI := Lib.hid hli; clear hK hd hJ hli; simp only [putD, Act.put, List.setIfInBounds_toArray, List.set_cons_succ, List.set_cons_zero, Nat.zero_add, Nat.reduceAdd] at HK ⊢; refine ⟨rfl, ?_⟩)
              obtain ⟨e0, e1, e2, e3, e4⟩ := HCE.out W HJ.out.1
              gi_wp2
              exact HK.out _ _ (HJ.out.light 8 (by decide) _ (fun u hu => by cases hu; rfl) (Below.refl _ _))
            · (intro val l vo W hli hd hJ K hK; have HK := Lib.hid hK; have HD := Lib.hid hd; have HJ := Lib.hid hJ; have HLI := Lib.hid hli; clear hK hd hJ hli; simp only [putD, Act.put, List.setIfInBounds_toArray, List.set_cons_succ, List.set_cons_zero, Nat.zero_add, Nat.reduceAdd] at HK ⊢; refine ⟨rfl, ?_⟩)
              obtain ⟨e0, e1, e2, e3, e4⟩ := HCE.out W HJ.out.1
              gi_wp2
              exact HK.out _ _ (HJ.out.light 9 (by decide) _ (fun u hu => by cases hu; rfl) (Below.refl _ _))
            · (intro val l vo W hli hd hJ K hK; have HK := Lib.hid hK; have HD := Lib.hid hd; have HJ := Lib.hid hJ; have HLI := Lib.hid hli; clear hK hd hJ hli; simp only [putD, Act.put, List.setIfInBounds_toArray, List.set_cons_succ, List.set_cons_zero, Nat.zero_add, Nat.reduceAdd] at HK ⊢; refine ⟨rfl, ?_⟩)
              obtain ⟨e0, e1, e2, e3, e4⟩ := HCE.out W HJ.out.1
              gi_wp2
              exact HK.out _ _ (HJ.out.light 10 (by decide) _ (fun u hu => by cases hu; rfl) (Below.refl _ _))
            · (intro val l vo W hli hd hJ K hK; have HK := Lib.hid hK; have HD := Lib.hid hd; have HJ := Lib.hid hJ; have HLI := Lib.hid hli; clear hK hd hJ hli; simp only [putD, Act.put, List.setIfInBounds_toArray, List.set_cons_succ, List.set_cons_zero, Nat.zero_add, Nat.reduceAdd] at HK ⊢; refine ⟨rfl, ?_⟩)
              obtain ⟨e0, e1, e2, e3, e4⟩ := HCE.out W HJ.out.1
              gi_wp2
              exact HK.out _ _ (HJ.out.light 11 (by decide) _ (fun u hu => by cases hu; rfl) (Below.refl _ _))
            · (intro val l vo W hli hd hJ K hK; have HK := Lib.hid hK; have HD := Lib.hid hd; have HJ := Lib.hid hJ; have HLI := Lib.hid hli; clear hK hd hJ hli; simp only [putD, Act.put, List.setIfInBounds_toArray, List.set_cons_succ, List.set_cons_zero, Nat.zero_add, Nat.reduceAdd] at HK ⊢; refine ⟨rfl, ?_⟩)
              obtain ⟨e0, e1, e2, e3, e4⟩ := HCE.out W HJ.out.1
              have v10 : val 10 = .slice (some ⟨b, o, none⟩) m.length c := (HD.out.1.2).trans (HJ.out.2.1 10 _ HD.out.1.1 rfl)
              have v11 : val 11 = I i := (HD.out.2.1.2).trans (HJ.out.2.1 11 _ HD.out.2.1.1 rfl)
              rw [v10, v11] at HK ⊢
              gi_wp2
              exact HK.out _ _ (HJ.out.light 12 (by decide) _ (fun u hu => by cases hu; rfl) (Below.refl _ _))
            · (intro val l vo W hli hd hJ K hK; have HK := Lib.hid hK; have HD := Lib.hid hd; have HJ := Lib.hid hJ; have HLI := Lib.hid hli; clear hK hd hJ hli; simp only [putD, Act.put, List.setIfInBounds_toArray, List.set_cons_succ, List.set_cons_zero, Nat.zero_add, Nat.reduceAdd] at HK ⊢; refine ⟨rfl, ?_⟩)
              obtain ⟨e0, e1, e2, e3, e4⟩ := HCE.out W HJ.out.1
              have v12 : val 12 = .pointer (some ⟨b, o + i * 2, none⟩) := (HD.out.1.2).trans (HJ.out.2.1 12 _ HD.out.1.1 rfl)
              rw [v12] at HK ⊢
              gi_wp2
              exact HK.out _ _ (HJ.out.light 13 (by decide) _ (fun u hu => by cases hu; rfl) (Below.refl _ _))
            · (intro val l vo W hli hd hJ K hK; have HK := Lib.hid hK; have HD := Lib.hid hd; have HJ := Lib.hid hJ; have HLI := Lib.hid hli; clear hK hd hJ hli; simp only [putD, Act.put, List.setIfInBounds_toArray, List.set_cons_succ, List.set_cons_zero, Nat.zero_add, Nat.reduceAdd] at HK ⊢; refine ⟨rfl, ?_⟩)
              obtain ⟨e0, e1, e2, e3, e4⟩ := HCE.out W HJ.out.1
              have v13 : val 13 = .pointer (some ⟨b, o + i * 2, none⟩) := (HD.out.1.2).trans (HJ.out.2.1 13 _ HD.out.1.1 rfl)
              rw [v13] at HK ⊢
              gi_wp2
              exact HK.out _ _ (HJ.out.light 14 (by decide) _ (fun u hu => by cases hu; rfl) (Below.refl _ _))
            · (intro val l vo W hli hd hJ K hK; have HK := Lib.hid hK; have HD := Lib.hid hd; have HJ := Lib.hid hJ; have HLI := Lib.hid hli; clear hK hd hJ hli; simp only [putD, Act.put, List.setIfInBounds_toArray, List.set_cons_succ, List.set_cons_zero, Nat.zero_add, Nat.reduceAdd] at HK ⊢; refine ⟨rfl, ?_⟩)
              obtain ⟨e0, e1, e2, e3, e4⟩ := HCE.out W HJ.out.1
              gi_wp2
              exact HK.out _ _ (HJ.out.light 15 (by decide) _ (fun u hu => by cases hu; rfl) (Below.refl _ _))
            · (intro val l vo W hli hd hJ K hK; have HK := Lib.hid hK; have HD := Lib.hid hd; have HJ := Lib.hid hJ; have HLI := Lib.hid hli; clear hK hd hJ hli; simp only [putD, Act.put, List.setIfInBounds_toArray, List.set_cons_succ, List.set_cons_zero, Nat.zero_add, Nat.reduceAdd] at HK ⊢; refine ⟨rfl, ?_⟩)
              obtain ⟨e0, e1, e2, e3, e4⟩ := HCE.out W HJ.out.1
              have v8 : val 8 = .slice (some ⟨b, o, none⟩) m.length c := (HD.out.1.2).trans (HJ.out.2.1 8 _ HD.out.1.1 rfl)
              have v9 : val 9 = .slice (some ⟨S, 0, none⟩) m.length m.length := (HD.out.2.1.2).trans (HJ.out.2.1 9 _ HD.out.2.1.1 rfl)
              have v14 : val 14 = I q := (HD.out.2.2.1.2).trans (HJ.out.2.1 14 _ HD.out.2.2.1.1 rfl)
              have v15 : val 15 = I i := (HD.out.2.2.2.1.2).trans (HJ.out.2.1 15 _ HD.out.2.2.2.1.1 rfl)
              rw [v8, v9, v14, v15] at HK ⊢
              gi_wp2_with (refine And.intro trivial ?_; gi_at_call 88; refine callsIn_wide.2 ((HSU.out W HJ.out.1).mono ?_); rintro e w3 ⟨rfl, hB3⟩)
              exact HK.out _ _ (HJ.out.light 16 (by decide) _ (fun u hu => by cases hu; rfl) hB3)
            · (intro val l vo W hli hd hJ K hK; have HK := Lib.hid hK; have HD := Lib.hid hd; have HJ := Lib.hid hJ; have HLI := Lib.hid hli; clear hK hd hJ hli; simp only [putD, Act.put, List.setIfInBounds_toArray, List.set_cons_succ, List.set_cons_zero, Nat.zero_add, Nat.reduceAdd] at HK ⊢; refine ⟨rfl, ?_⟩)
              gi_wp2
              exact HK.out _ _ (HJ.out.alloc17 HLI.out)
            · (intro val l vo W hli hd hJ K hK; have HK := Lib.hid hK; have HD := Lib.hid hd; have HJ := Lib.hid hJ; have HLI := Lib.hid hli; clear hK hd hJ hli; simp only [putD, Act.put, List.setIfInBounds_toArray, List.set_cons_succ, List.set_cons_zero, Nat.zero_add, Nat.reduceAdd] at HK ⊢; refine ⟨rfl, ?_⟩)
              gi_wp2
              exact HK.out _ _ (HJ.out.alloc18 HLI.out)
            · (intro val l vo W hli hd hJ K hK; have HK := Lib.hid hK; have HD := Lib.hid hd; have HJ := Lib.hid hJ; have HLI := Lib.hid hli; clear hK hd hJ hli; simp only [putD, Act.put, List.setIfInBounds_toArray, List.set_cons_succ, List.set_cons_zero, Nat.zero_add, Nat.reduceAdd] at HK ⊢; refine ⟨rfl, ?_⟩)
              obtain ⟨h17, v17⟩ := HD.out.1
              obtain ⟨b10, e10, hb10, hx10⟩ := HJ.out.2.2.1 h17
              obtain ⟨h7, v7⟩ := HD.out.2.1
              have e7 : val 7 = .agg #[I d1, I d2] := v7.trans (HJ.out.2.1 7 _ h7 rfl)
              have e17 : val 17 = .pointer (some ⟨b10, 0, none⟩) := v17.trans e10
              rw [HJ.out.not19 HLI.out] at hx10
              obtain ⟨x0, y0⟩ := hx10.at_ 0 _ rfl
              obtain ⟨x1, y1⟩ := hx10.at_ 1 _ rfl
              rw [e7, e17] at HK ⊢
              gi_wp2
              exact HK.out undef _ (HJ.out.store19 HLI.out h17 e10 _)
            · (intro val l vo W hli hd hJ K hK; have HK := Lib.hid hK; have HD := Lib.hid hd; have HJ := Lib.hid hJ; have HLI := Lib.hid hli; clear hK hd hJ hli; simp only [putD, Act.put, List.setIfInBounds_toArray, List.set_cons_succ, List.set_cons_zero, Nat.zero_add, Nat.reduceAdd] at HK ⊢; refine ⟨rfl, ?_⟩)
              obtain ⟨h18, v18⟩ := HD.out.1
              obtain ⟨b11, e11, hb11, hx11⟩ := HJ.out.2.2.2.1 h18
              obtain ⟨h16, v16⟩ := HD.out.2.1
              have e16 : val 16 = .agg #[I r1, I r2] := v16.trans (HJ.out.2.1 16 _ h16 rfl)
              have e18 : val 18 = .pointer (some ⟨b11, 0, none⟩) := v18.trans e11
              rw [HJ.out.not20 HLI.out] at hx11
              obtain ⟨x0, y0⟩ := hx11.at_ 0 _ rfl
              obtain ⟨x1, y1⟩ := hx11.at_ 1 _ rfl
              rw [e16, e18] at HK ⊢
              gi_wp2
              exact HK.out undef _ (HJ.out.store20 HLI.out h18 e11 _)
          · intro lf val W hall hJ
            obtain ⟨b10, b11, e10, e11, hb10, hb11, hx10, hx11, hne, hBJ⟩ := J14.fin hJ (hall 17 (by decide)) (hall 18 (by decide)) (hall 19 (by decide)) (hall 20 (by decide))
            have HX10 := Lib.hid hx10
            have HX11 := Lib.hid hx11
            have HBJ := Lib.hid hBJ
            simp only [putD, Act.put, List.setIfInBounds_toArray, List.set_cons_succ, List.set_cons_zero, Nat.zero_add, Nat.reduceAdd]
            rw [e10, e11]
            clear hJ hall e10 e11 hx10 hx11
            have hzW := hBJ.size
            have HCE2 : Hid (∀ W', Below W.heap.size W W' → W'.cell? ⟨S, i * 2, none⟩ = some (I s1) ∧ W'.cell? ⟨S, i * 2 + 1, none⟩ = some (I s2) ∧ W'.cell? ⟨b10, 0, none⟩ = some (I d1) ∧ W'.cell? ⟨b10, 1, none⟩ = some (I d2) ∧ W'.cell? ⟨b11, 0, none⟩ = some (I r1) ∧ W'.cell? ⟨b11, 1, none⟩ = some (I r2)) := Lib.hid fun W' hW' => by
              obtain ⟨_, _, _, e3, e4⟩ := HCE.out W' (HBJ.out.trans (hW'.mono hzW))
              exact ⟨e3, e4, ((HX10.out.call hW').at_ 0 _ rfl).1, ((HX10.out.call hW').at_ 1 _ rfl).1, ((HX11.out.call hW').at_ 0 _ rfl).1, ((HX11.out.call hW').at_ 1 _ rfl).1⟩
            clear HCE HSU hBJ
            go_wp2
            refine (wpIn_wide (n := 9)).1 ?_
            refine wpIn_region_plan (Plan.ons [0, 1, 2, 3, 4, 5, 6, 7, 8, 9, 10, 11, 12, 13, 14, 15, 16, 17, 18, 19] .fin) [0, 1] (fun W' => Below W.heap.size W W') [19] rfl (by kernel_rfl) (by kernel_rfl) (fun _ d _ _ _ h => by cases d <;> exact h) (Below.refl _ _).drew ?_
            (refine ordQ_held (.slice (some ⟨S, 0, none⟩) m.length m.length) rfl rfl rfl rfl (fun W' hC' => ?_) (fun K hK => ?_); (focus (obtain _ := HCE2.out _ hC'; go_simp; try exact ⟨rfl, rfl⟩)); go_simp; refine hK _ ?_; clear hK K)
            (refine ordQ_held (I i) rfl rfl rfl rfl (fun W' hC' => ?_) (fun K hK => ?_); (focus (obtain _ := HCE2.out _ hC'; go_simp; try exact ⟨rfl, rfl⟩)); go_simp; refine hK _ ?_; clear hK K)
            obtain ⟨k0, k1, k2, k3, k4, k5⟩ := HCE2.out W (Below.refl _ _)
            iterate 15 (refine ordQ_li rfl rfl rfl (fun K hK => ?_); go_simp; refine hK _ ?_; clear hK K)
            refine ordQ_hv rfl rfl rfl (fun K hK => ?_)
            gi_wp2_with (refine And.intro trivial ?_; gi_at_call 89; refine callsIn_wide.2 ((both89 _ _ _ _ _).mono ?_); rintro e w4 ⟨rfl, hB4⟩)
            have hb4 : Below W.heap.size W w4 := by simpa using (Below.refl _ _).drew.trans hB4
            refine hK _ _ (fun _ => hb4) ?_
            clear hK K hB4 k0 k1 k2 k3 k4 k5
            have HS4 := Lib.hid (HSP.out.call (HBJ.out.trans (hb4.mono hzW)))
            obtain ⟨s1', s2', s3', s4'⟩ := HS4.out.2 i (by omega)
            (refine ordQ_li rfl rfl rfl (fun K hK => ?_); go_simp; refine hK _ ?_; clear hK K)
            refine ordQ_hv rfl rfl rfl (fun K hK => ?_)
            gi_wp2
            refine hK _ _ (fun h => by cases h) ?_
            clear hK K
            refine ordQ_fin ?_
            have HS8 : Hid (SpB ((w4.setCell ⟨S, i * 2, none⟩ (I (max s1 (d1 - r2)))).setCell ⟨S, i * 2 + 1, none⟩ (I (min s2 (d2 - r1)))) S (sl.set i (max s1 (d1 - r2), min s2 (d2 - r1)))) := Lib.hid (HS4.out.set i (by omega) _ _)
            have hB8 : Below w.heap.size w ((w4.setCell ⟨S, i * 2, none⟩ (I (max s1 (d1 - r2)))).setCell ⟨S, i * 2 + 1, none⟩ (I (min s2 (d2 - r1)))) := ((HB.out.trans ((HBJ.out.trans (hb4.mono hzW)).mono hz)).setCell hSw _).setCell hSw _
            clear s1' s2' s3' s4' HS4 hb4
            generalize (w4.setCell ⟨S, i * 2, none⟩ (I (max s1 (d1 - r2)))).setCell ⟨S, i * 2 + 1, none⟩ (I (min s2 (d2 - r1))) = W8 at *
            go_wp2
            go_roundw
            case rel => exact ⟨i + 1, by omega, by omega, by go_num, Lib.hid ⟨hB8, _, s, HS8.out, by simpa using hsl, HBK.out (max s1 (d1 - r2), min s2 (d2 - r1)) _ rfl (fun k => sF_set (by omega) _ k)⟩⟩
            case measure => first | (simp [intOf]; done) | (simp [intOf]; omega)
        · obtain rfl : m.length = i := by omega
          obtain ⟨hB, sl, s, hsp, hsl, hdn⟩ := HB.out
          have HF := Lib.hid hdn
          have HSP := Lib.hid hsp
          clear hsp hdn HB
          go_wp2
          go_ret2
          exact ⟨hB, .inr ⟨S, sl, rfl, hSw, HSP.out, hsl, HF.out.spans HOK.out (fun x _ hx => hx)⟩⟩
end Go.Proofs.YtgdilbilhajgaaaDoor
