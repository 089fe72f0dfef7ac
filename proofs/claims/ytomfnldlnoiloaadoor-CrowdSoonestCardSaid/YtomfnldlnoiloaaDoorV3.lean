/- Crowd, plain: moves that can all be made; in another order; cut short. -/
import Derived.Test.YtomfnldlnoiloaaDoorV2
namespace Go.Proofs.YtomfnldlnoiloaaDoor
set_option linter.unusedVariables false
set_option linter.unusedSimpArgs false

/-- All moves can be made behind others, one by one. -/
def Good (v : Vis) : List Mv → List Mv → Prop
  | _, [] => True
  | ms, x :: l => (MvOk v x ∧ (∀ y, y ∈ ms → y.1 ≤ x.1) ∧ chkM v ms x.1.toNat x = 0) ∧ Good v (ms ++ [x]) l
theorem lsum_perm {α : Type} (f : α → Int) {a b : List α} (h : a.Perm b) : lsum (a.map f) = lsum (b.map f) := by
  induction h with
  | nil => rfl
  | cons x _ ih => rw [List.map_cons, List.map_cons, lsum_cons, lsum_cons, ih]
  | swap x y l => simp only [List.map_cons, lsum_cons]; omega
  | trans _ _ h1 h2 => rw [h1, h2]
theorem outM_perm {a b : List Mv} (h : a.Perm b) (t k : Nat) : outM a t k = outM b t k := lsum_perm _ h
theorem comM_perm (v : Vis) {a b : List Mv} (h : a.Perm b) (q t : Nat) : comM v a q t = comM v b q t := lsum_perm _ h
theorem lefM_perm (v : Vis) {a b : List Mv} (h : a.Perm b) (q t : Nat) : lefM v a q t = lefM v b q t := lsum_perm _ h
theorem thM_perm (v : Vis) {a b : List Mv} (h : a.Perm b) (q : Nat) : ∀ t, thM v a q t = thM v b q t
  | 0 => rfl
  | t + 1 => by rw [thM, thM, thM_perm v h q t, comA, comA, comM_perm v h, lefM_perm v h]
theorem begM_perm (v : Vis) {a b : List Mv} (h : a.Perm b) (q t : Nat) : begM v a q t = begM v b q t := by rw [begM, begM, thM_perm v h, comA, comA, comM_perm v h]
theorem chkM_perm (v : Vis) {a b : List Mv} (h : a.Perm b) (t : Nat) (m : Mv) : chkM v a t m = chkM v b t m := by unfold chkM; rw [outM_perm h, begM_perm v h, lefM_perm v h]
theorem Good.perm {v : Vis} : ∀ {l a b : List Mv}, a.Perm b → Good v a l → Good v b l
  | [], _, _, _, _ => trivial
  | x :: l, a, b, h, hg => ⟨⟨hg.1.1, fun y hy => hg.1.2.1 y (h.mem_iff.2 hy), by rw [← chkM_perm v h]; exact hg.1.2.2⟩, Good.perm (h.append_right [x]) hg.2⟩
theorem Good.app {v : Vis} : ∀ {a ms b : List Mv}, Good v ms (a ++ b) ↔ Good v ms a ∧ Good v (ms ++ a) b
  | [], ms, b => by simp [Good]
  | x :: a, ms, b => by
    rw [List.cons_append, Good, Good, Good.app (a := a)]
    simp [and_assoc]
theorem Good.all {v : Vis} : ∀ {l ms : List Mv}, Good v ms l → ∀ x, x ∈ l → MvOk v x
  | [], _, _, _, hx => by cases hx
  | y :: l, ms, h, x, hx => by
    rcases List.mem_cons.1 hx with rfl | hx
    · exact h.1.1
    · exact Good.all h.2 x hx
/-- Another move of the same minute, from another place on another trail, turns nothing of it. -/
theorem chk_other {v : Vis} (hv : VisOk v) {ms : List Mv} {x y : Mv} {t : Nat} (hy : MvOk v y) (ht : y.1.toNat = t) (hk : y.2.1.toNat ≠ x.2.1.toNat) (hf : (v.far y.2.1.toNat).1.toNat ≠ (v.far x.2.1.toNat).1.toNat) : chkM v (ms ++ [y]) t x = chkM v ms t x := by
  unfold chkM
  have e1 : (if y.1.toNat = t ∧ y.2.1.toNat = x.2.1.toNat then y.2.2 else 0) = 0 := if_neg fun h => hk h.2
  have e2 : (if y.1.toNat = t ∧ (v.far y.2.1.toNat).1.toNat = (v.far x.2.1.toNat).1.toNat then y.2.2 else 0) = 0 := if_neg fun h => hf h.2
  rw [outM_snoc, begM_snoc hv hy _ t (by omega), lefM_snoc, e1, e2]
  simp
/-- May two moves be made the other way round? -/
def free2 (v : Vis) (x y : Mv) : Bool := decide (x.1 = y.1) && !decide (x.2.1 = y.2.1) && !decide ((v.far x.2.1.toNat).1 = (v.far y.2.1.toNat).1)
theorem Good.swap {v : Vis} (hv : VisOk v) {ms l : List Mv} {x y : Mv} (h : Good v ms (x :: y :: l)) (hf : free2 v x y = true) : Good v ms (y :: x :: l) := by
  simp only [free2, Bool.and_eq_true, decide_eq_true_eq, Bool.not_eq_true', decide_eq_false_iff_not] at hf
  obtain ⟨⟨h1, h2⟩, h3⟩ := hf
  obtain ⟨⟨x1, x2, x3⟩, ⟨y1, y2, y3⟩, hl⟩ := h
  have fx := far_ok hv x1.k.2
  have fy := far_ok hv y1.k.2
  have e1 := x1.k
  have e2 := y1.k
  have k1 : y.2.1.toNat ≠ x.2.1.toNat := by omega
  have k2 : (v.far y.2.1.toNat).1.toNat ≠ (v.far x.2.1.toNat).1.toNat := by omega
  have ey : chkM v ms y.1.toNat y = 0 := by rw [← chk_other hv x1 (by rw [h1]) k1.symm k2.symm]; exact y3
  refine ⟨⟨y1, fun z hz => y2 z (by simp [hz]), ey⟩, ⟨x1, fun z hz => ?_, ?_⟩, hl.perm ?_⟩
  · rcases List.mem_append.1 hz with hz | hz
    · exact x2 z hz
    · rw [List.mem_singleton] at hz; subst hz; omega
  · rw [chk_other hv y1 (by rw [h1]) k1 k2]; exact x3
  · rw [List.append_assoc, List.append_assoc]
    exact List.Perm.append_left ms (List.Perm.swap y x [])
theorem chk_zero {v : Vis} {ms : List Mv} {now : Nat} {m : Mv} (h : chkM v ms now m = 0) : MvOk v m ∧ m.1 = now := by
  unfold chkM at h
  by_cases h1 : mvOk v m = true
  · refine ⟨mvOk_iff.1 h1, ?_⟩
    rw [if_pos h1] at h
    by_cases h2 : m.1 < now
    · rw [if_pos h2] at h; cases h
    · rw [if_neg h2] at h
      by_cases h3 : (now : Int) < m.1
      · rw [if_pos h3] at h; cases h
      · omega
  · rw [if_neg h1] at h; cases h
theorem chk_late {v : Vis} {ms : List Mv} {now : Nat} {m : Mv} (h : chkM v ms now m = -1) : MvOk v m ∧ (now : Int) < m.1 := by
  unfold chkM at h
  by_cases h1 : mvOk v m = true
  · refine ⟨mvOk_iff.1 h1, ?_⟩
    rw [if_pos h1] at h
    by_cases h2 : m.1 < now
    · rw [if_pos h2] at h; cases h
    · rw [if_neg h2] at h
      by_cases h3 : (now : Int) < m.1
      · exact h3
      · rw [if_neg h3] at h
        split at h
        · cases h
        · split at h <;> cases h
  · rw [if_neg h1] at h; cases h
theorem chk_is_late {v : Vis} {ms : List Mv} {now : Nat} {m : Mv} (h : MvOk v m) (hn : (now : Int) < m.1) : chkM v ms now m = -1 := by
  unfold chkM
  rw [if_pos (mvOk_iff.2 h), if_neg (by omega), if_pos hn]
/-- What See says of moves that it made all. -/
theorem see_good {v : Vis} {l : List Mv} : ∀ {f now k k' : Nat}, seeG v l f now k = (k', 0) → 61 - now + (l.length - k) ≤ f → k ≤ l.length → (61 ≤ now → k = l.length) → (∀ y, y ∈ l.take k → y.1 ≤ now) → Good v (l.take k) (l.drop k) ∧ k' = l.length
  | 0, now, k, k', h, hf, hk, h61, hm => by
    rw [seeG] at h
    obtain rfl : k = l.length := h61 (by omega)
    cases h
    exact ⟨by rw [List.drop_length]; trivial, rfl⟩
  | f + 1, now, k, k', h, hf, hk, h61, hm => by
    by_cases hn : 61 ≤ now
    · obtain rfl : k = l.length := h61 hn
      rw [seeG, if_pos hn] at h
      cases h
      exact ⟨by rw [List.drop_length]; trivial, rfl⟩
    · by_cases hkl : k < l.length
      · rw [seeG_some (by omega) hkl] at h
        by_cases h0 : chkM v (l.take k) now l[k] = 0
        · rw [if_pos h0] at h
          obtain ⟨o1, o2⟩ := chk_zero h0
          have e := take_succ hkl
          obtain ⟨g1, g2⟩ := see_good h (by omega) (by omega) (fun h => absurd h hn) (fun y hy => by
            rw [e] at hy
            rcases List.mem_append.1 hy with hy | hy
            · exact hm y hy
            · rw [List.mem_singleton] at hy; subst hy; omega)
          refine ⟨?_, g2⟩
          rw [List.drop_eq_getElem_cons hkl, Good, ← e]
          exact ⟨⟨o1, fun y hy => by have := hm y hy; omega, by rw [o2]; exact h0⟩, g1⟩
        · rw [if_neg h0] at h
          by_cases h1 : chkM v (l.take k) now l[k] = -1
          · rw [if_pos h1] at h
            obtain ⟨o1, o2⟩ := chk_late h1
            have := o1.t
            exact see_good h (by omega) hk (fun h => by omega) (fun y hy => by have := hm y hy; push_cast; omega)
          · rw [if_neg h1] at h
            exact absurd (congrArg Prod.snd h) h0
      · rw [seeG_none (by omega) (by omega)] at h
        exact see_good h (by omega) hk (fun _ => by omega) (fun y hy => by have := hm y hy; push_cast; omega)
theorem good_see {v : Vis} {l : List Mv} : ∀ {f now k : Nat}, Good v (l.take k) (l.drop k) → (∀ y, y ∈ l.drop k → (now : Int) ≤ y.1) → 61 - now + (l.length - k) ≤ f → k ≤ l.length → seeG v l f now k = (l.length, 0)
  | 0, now, k, hg, hn, hf, hk => by
    rw [seeG]
    by_cases hkl : k < l.length
    · omega
    · rw [show k = l.length by omega]
  | f + 1, now, k, hg, hn, hf, hk => by
    by_cases hkl : k < l.length
    · rw [List.drop_eq_getElem_cons hkl] at hg hn
      obtain ⟨⟨o1, o2, o3⟩, o4⟩ := hg
      have h61 := o1.t
      have hnow := hn l[k] List.mem_cons_self
      rw [seeG_some (by omega) hkl]
      by_cases e : l[k].1 = now
      · rw [e] at o3
        rw [Int.toNat_natCast] at o3
        rw [if_pos o3]
        rw [← take_succ hkl] at o4
        exact good_see o4 (fun y hy => hn y (List.mem_cons_of_mem _ hy)) (by omega) (by omega)
      · have hl := chk_is_late (ms := l.take k) o1 (by omega : (now : Int) < l[k].1)
        rw [hl, if_neg (by omega), if_pos rfl]
        have hs := Good.all (v := v) (l := l.drop k) (ms := l.take k) (by rw [List.drop_eq_getElem_cons hkl]; exact ⟨⟨o1, o2, o3⟩, o4⟩)
        refine good_see (by rw [List.drop_eq_getElem_cons hkl]; exact ⟨⟨o1, o2, o3⟩, o4⟩) (fun y hy => ?_) (by omega) hk
        rw [List.drop_eq_getElem_cons hkl] at hy
        rcases List.mem_cons.1 hy with rfl | hy
        · push_cast; omega
        · have : l[k].1 ≤ y.1 := by
            clear hs hn
            obtain ⟨a, b, e3⟩ := List.append_of_mem hy
            rw [e3, Good.app] at o4
            have := o4.2.1.2.1 l[k] (List.mem_append_left _ (List.mem_append_right _ (List.mem_singleton.2 rfl)))
            exact this
          push_cast; omega
    · by_cases h61 : 61 ≤ now
      · rw [seeG, if_pos h61, show k = l.length by omega]
      · rw [seeG_none (by omega) (by omega)]
        exact good_see hg (fun y hy => by rw [List.drop_eq_nil_of_le (by omega)] at hy; cases hy) (by omega) hk
theorem see_all {v : Vis} {l : List Mv} {k : Nat} (h : seeF v l = (k, 0)) : Good v [] l ∧ k = l.length := by
  have := see_good (k := 0) h (by omega) (Nat.zero_le _) (fun h => by omega) (fun y hy => by rw [List.take_zero] at hy; cases hy)
  rwa [List.take_zero, List.drop_zero] at this
theorem all_see {v : Vis} {l : List Mv} (h : Good v [] l) : seeF v l = (l.length, 0) :=
  good_see (k := 0) (by rw [List.take_zero, List.drop_zero]; exact h) (fun y hy => by rw [List.drop_zero] at hy; have := (h.all y hy).t; omega) (by omega) (Nat.zero_le _)
theorem seeG_le {v : Vis} {l : List Mv} : ∀ {f now k : Nat}, k ≤ l.length → (seeG v l f now k).1 ≤ l.length
  | 0, _, _, h => h
  | f + 1, now, k, h => by
    by_cases hn : 61 ≤ now
    · rw [seeG, if_pos hn]; exact h
    · by_cases hk : k < l.length
      · rw [seeG_some (by omega) hk]
        by_cases h0 : chkM v (l.take k) now l[k] = 0
        · rw [if_pos h0]; exact seeG_le (by omega)
        · rw [if_neg h0]
          by_cases h1 : chkM v (l.take k) now l[k] = -1
          · rw [if_pos h1]; exact seeG_le h
          · rw [if_neg h1]; exact h
      · rw [seeG_none (by omega) (by omega)]; exact seeG_le h
/-- No place ever has fewer than none. -/
theorem nn_snoc {v : Vis} (hv : VisOk v) {ms : List Mv} {x : Mv} (hms : ∀ y, y ∈ ms → MvOk v y) (hn : ∀ q, q < v.n → ∀ t, 0 ≤ thM v ms q t) (hx : MvOk v x) (hle : ∀ y, y ∈ ms → y.1 ≤ x.1) (hc : chkM v ms x.1.toNat x = 0) : ∀ q, q < v.n → ∀ t, 0 ≤ thM v (ms ++ [x]) q t := fun q hq t => by
  have hk : ¬ begM v ms (v.far x.2.1.toNat).1.toNat x.1.toNat - lefM v ms (v.far x.2.1.toNat).1.toNat x.1.toNat < x.2.2 := fun hlt => by
    unfold chkM at hc
    have := hx.t
    rw [if_pos (mvOk_iff.2 hx), if_neg (by omega), if_neg (by omega), if_pos hlt] at hc
    split at hc <;> cases hc
  induction t with
  | zero => exact Int.le_refl _
  | succ t ih =>
    by_cases h1 : t + 1 ≤ x.1.toNat
    · rw [thM_snoc hv hx q _ h1]; exact hn q hq _
    · by_cases h2 : t = x.1.toNat
      · rw [thM_succ, begM_snoc hv hx q t (by omega), lefM_snoc]
        by_cases h3 : (v.far x.2.1.toNat).1.toNat = q
        · rw [if_pos ⟨h2.symm, h3⟩]
          rw [h3, ← h2] at hk
          omega
        · rw [if_neg (fun h => h3 h.2)]
          have := hn q hq (t + 1)
          rw [thM_succ] at this
          omega
      · have hmade : MadeTo v (ms ++ [x]) t := fun y hy => by
          rcases List.mem_append.1 hy with hy | hy
          · have a1 := hms y hy
            have a2 := hle y hy
            have := a1.t
            exact ⟨a1, by omega⟩
          · rw [List.mem_singleton] at hy; subst hy
            exact ⟨hx, by omega⟩
        rw [thM_succ, lefM_new hmade (Nat.le_refl _)]
        have := hv.room q hq
        have := arrive_top hv q t
        have := (comM_le hmade q t).1
        unfold begM comA
        omega
theorem nn_all {v : Vis} (hv : VisOk v) : ∀ {l ms : List Mv}, (∀ y, y ∈ ms → MvOk v y) → (∀ q, q < v.n → ∀ t, 0 ≤ thM v ms q t) → Good v ms l → ∀ q, q < v.n → ∀ t, 0 ≤ thM v (ms ++ l) q t
  | [], ms, _, hn, _ => by rw [List.append_nil]; exact hn
  | x :: l, ms, hms, hn, hg => by
    rw [List.append_cons]
    refine nn_all hv (fun y hy => ?_) (nn_snoc hv hms hn hg.1.1 hg.1.2.1 hg.1.2.2) hg.2
    rcases List.mem_append.1 hy with hy | hy
    · exact hms y hy
    · rw [List.mem_singleton] at hy; subst hy; exact hg.1.1
theorem nn_nil {v : Vis} (hv : VisOk v) : ∀ q, q < v.n → ∀ t, 0 ≤ thM v [] q t := fun q hq t => by
  induction t with
  | zero => exact Int.le_refl _
  | succ t ih =>
    rw [thM_succ]
    have := hv.room q hq
    have := arrive_top hv q t
    simp only [begM, comA, comM, lefM, List.map_nil, lsum, List.foldr]
    omega
theorem good_nn {v : Vis} (hv : VisOk v) {l : List Mv} (hg : Good v [] l) {q : Nat} (hq : q < v.n) (t : Nat) : 0 ≤ thM v l q t := by
  have := nn_all hv (ms := []) (fun y hy => by cases hy) (nn_nil hv) hg q hq t
  rwa [List.nil_append] at this
theorem good_beg {v : Vis} (hv : VisOk v) {l : List Mv} (hg : Good v [] l) {q : Nat} (hq : q < v.n) (t : Nat) : 0 ≤ begM v l q t := by
  have h1 := good_nn hv hg hq t
  have := hv.room q hq
  have := arrive_top hv q t
  have h2 := lsum_le (fun m : Mv => if (v.far m.2.1.toNat).2.1.toNat = q ∧ m.1.toNat + (v.far m.2.1.toNat).2.2.1.toNat = t then m.2.2 else 0) 1000 (by omega) l (fun m hm => by have := (hg.all m hm).c; split <;> omega)
  unfold begM comA comM
  omega
/-- Moves behind the minute turn nothing of those who see. -/
theorem beg_late {v : Vis} (hv : VisOk v) {mn : Nat} (p : Nat) : ∀ {l ms : List Mv}, (∀ x, x ∈ l → MvOk v x ∧ (mn : Int) < x.1) → begM v (ms ++ l) p mn = begM v ms p mn
  | [], ms, _ => by rw [List.append_nil]
  | x :: l, ms, h => by
    have hx := h x (by simp)
    have := hx.1.t
    rw [List.append_cons, beg_late hv p (fun y hy => h y (by simp [hy])), begM_snoc hv hx.1 p mn (by omega)]
theorem good_late {v : Vis} : ∀ {l ms : List Mv} {z : Mv}, Good v ms l → z ∈ ms → ∀ x, x ∈ l → z.1 ≤ x.1
  | [], _, _, _, _, _, hx => by cases hx
  | y :: l, ms, z, h, hz, x, hx => by
    rcases List.mem_cons.1 hx with rfl | hx
    · exact h.1.2.1 z hz
    · exact good_late h.2 (List.mem_append_left _ hz) x hx
/-- The moves till a minute. -/
def tillM (mn : Int) (l : List Mv) : List Mv := l.filter fun m => decide (m.1 ≤ mn)
theorem good_till {v : Vis} (hv : VisOk v) {mn : Nat} (p : Nat) : ∀ {l ms : List Mv}, Good v ms l → Good v ms (tillM mn l) ∧ begM v (ms ++ tillM mn l) p mn = begM v (ms ++ l) p mn
  | [], ms, _ => ⟨trivial, rfl⟩
  | x :: l, ms, h => by
    by_cases e : x.1 ≤ mn
    · have e2 : tillM mn (x :: l) = x :: tillM mn l := by simp [tillM, e]
      obtain ⟨h1, h2⟩ := good_till hv p h.2
      rw [e2]
      refine ⟨⟨h.1, h1⟩, ?_⟩
      rw [List.append_cons, List.append_cons ms x l]
      exact h2
    · have hall : ∀ y, y ∈ x :: l → MvOk v y ∧ (mn : Int) < y.1 := fun y hy => by
        refine ⟨h.all y hy, ?_⟩
        rcases List.mem_cons.1 hy with rfl | hy
        · omega
        · have := good_late h.2 (z := x) (by simp) y hy
          omega
      have e2 : tillM mn (x :: l) = [] := by
        unfold tillM
        rw [List.filter_eq_nil_iff]
        intro y hy
        have := (hall y hy).2
        simp; omega
      rw [e2, beg_late hv p hall, List.append_nil]
      exact ⟨trivial, rfl⟩
end Go.Proofs.YtomfnldlnoiloaaDoor
