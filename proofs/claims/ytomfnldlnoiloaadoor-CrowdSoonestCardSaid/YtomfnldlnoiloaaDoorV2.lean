/- Crowd, plain: moves, one by one; who is where. -/
import Derived.Test.YtomfnldlnoiloaaDoorS9
namespace Go.Proofs.YtomfnldlnoiloaaDoor
set_option linter.unusedVariables false
set_option linter.unusedSimpArgs false

/-- A move: its minute, its trail, its people. -/
abbrev Mv := Int × Int × Int
namespace Vis
def far (v : Vis) (k : Nat) : Int × Int × Int × Int := v.tr.getD k (0, 0, 0, 0)
end Vis
/-- How many set out on a trail in a minute. -/
def outM (ms : List Mv) (t k : Nat) : Int := lsum (ms.map fun m => if m.1.toNat = t ∧ m.2.1.toNat = k then m.2.2 else 0)
/-- How many come to a place in a minute, by trails. -/
def comM (v : Vis) (ms : List Mv) (q t : Nat) : Int := lsum (ms.map fun m => if (v.far m.2.1.toNat).2.1.toNat = q ∧ m.1.toNat + (v.far m.2.1.toNat).2.2.1.toNat = t then m.2.2 else 0)
/-- How many leave a place in a minute. -/
def lefM (v : Vis) (ms : List Mv) (q t : Nat) : Int := lsum (ms.map fun m => if m.1.toNat = t ∧ (v.far m.2.1.toNat).1.toNat = q then m.2.2 else 0)
def comA (v : Vis) (ms : List Mv) (q t : Nat) : Int := arrive v q t + comM v ms q t
/-- How many are at a place ahead of a minute. -/
def thM (v : Vis) (ms : List Mv) (q : Nat) : Nat → Int
  | 0 => 0
  | t + 1 => min (thM v ms q t) (v.room q) + comA v ms q t - lefM v ms q t
/-- .. and when it has begun. -/
def begM (v : Vis) (ms : List Mv) (q t : Nat) : Int := min (thM v ms q t) (v.room q) + comA v ms q t
theorem thM_succ (v : Vis) (ms : List Mv) (q t : Nat) : thM v ms q (t + 1) = begM v ms q t - lefM v ms q t := rfl
/-- Is a move right? -/
def mvOk (v : Vis) (m : Mv) : Bool := inB m.2.1 0 ((v.tr.length : Int) - 1) && inB m.2.2 1 1000 && inB m.1 0 60
/-- What becomes of a move: 0: it is made; -1: it is for later; else an error. -/
def chkM (v : Vis) (ms : List Mv) (now : Nat) (m : Mv) : Int :=
  if mvOk v m then
    if m.1 < now then 7 else if (now : Int) < m.1 then -1
    else if (v.far m.2.1.toNat).2.2.2 < outM ms now m.2.1.toNat + m.2.2 then 9
    else if begM v ms (v.far m.2.1.toNat).1.toNat now - lefM v ms (v.far m.2.1.toNat).1.toNat now < m.2.2 then 10 else 0
  else 1
/-- How far one comes, and why not farther. -/
def seeG (v : Vis) (l : List Mv) : Nat → Nat → Nat → Nat × Int
  | 0, _, k => (k, 0)
  | f + 1, now, k => if 61 ≤ now then (k, 0) else match l[k]? with
    | none => seeG v l f (now + 1) k
    | some m => if chkM v (l.take k) now m = 0 then seeG v l f now (k + 1) else if chkM v (l.take k) now m = -1 then seeG v l f (now + 1) k else (k, chkM v (l.take k) now m)
def seeF (v : Vis) (l : List Mv) : Nat × Int := seeG v l (61 + l.length) 0 0
/-- What See returns. -/
def seeV (v : Vis) (l : List Mv) (p m : Int) : Int × Int × Int :=
  if errN v p m = 0 then
    if l.length ≤ 256 then
      if (seeF v l).2 = 0 then (min (begM v (l.take (seeF v l).1) p.toNat m.toNat) (v.room p.toNat), (seeF v l).1, 0) else (0, (seeF v l).1, (seeF v l).2)
    else (0, 0, 3)
  else (0, 0, errN v p m)
theorem seeG_late (v : Vis) (l : List Mv) (f k : Nat) : seeG v l f 61 k = (k, 0) := by cases f <;> simp [seeG]
theorem seeG_none {v : Vis} {l : List Mv} {f now k : Nat} (hn : now < 61) (h : l.length ≤ k) : seeG v l (f + 1) now k = seeG v l f (now + 1) k := by
  rw [seeG, if_neg (by omega), List.getElem?_eq_none h]
theorem seeG_some {v : Vis} {l : List Mv} {f now k : Nat} (hn : now < 61) (h : k < l.length) :
    seeG v l (f + 1) now k = if chkM v (l.take k) now l[k] = 0 then seeG v l f now (k + 1) else if chkM v (l.take k) now l[k] = -1 then seeG v l f (now + 1) k else (k, chkM v (l.take k) now l[k]) := by
  rw [seeG, if_neg (by omega), List.getElem?_eq_getElem h]
/-- The state of the search: it comes to the same. -/
def SeeAt (v : Vis) (l : List Mv) (now k : Nat) : Prop := ∃ f, 61 - now + (l.length - k) ≤ f ∧ seeG v l f now k = seeF v l
theorem SeeAt.start (v : Vis) (l : List Mv) : SeeAt v l 0 0 := ⟨61 + l.length, by omega, rfl⟩
theorem SeeAt.last {v : Vis} {l : List Mv} {k : Nat} (h : SeeAt v l 61 k) : seeF v l = (k, 0) := by
  obtain ⟨f, _, hf⟩ := h
  rw [← hf, seeG_late]
theorem SeeAt.done {v : Vis} {l : List Mv} {now k : Nat} (h : SeeAt v l now k) (hn : now < 61) (hk : l.length ≤ k) : SeeAt v l (now + 1) k := by
  obtain ⟨f, h1, hf⟩ := h
  obtain ⟨g, rfl⟩ : ∃ g, f = g + 1 := ⟨f - 1, by omega⟩
  rw [seeG_none hn hk] at hf
  exact ⟨g, by omega, hf⟩
theorem SeeAt.make {v : Vis} {l : List Mv} {now k : Nat} (h : SeeAt v l now k) (hn : now < 61) (hk : k < l.length) (hc : chkM v (l.take k) now l[k] = 0) : SeeAt v l now (k + 1) := by
  obtain ⟨f, h1, hf⟩ := h
  obtain ⟨g, rfl⟩ : ∃ g, f = g + 1 := ⟨f - 1, by omega⟩
  rw [seeG_some hn hk, if_pos hc] at hf
  exact ⟨g, by omega, hf⟩
theorem SeeAt.later {v : Vis} {l : List Mv} {now k : Nat} (h : SeeAt v l now k) (hn : now < 61) (hk : k < l.length) (hc : chkM v (l.take k) now l[k] = -1) : SeeAt v l (now + 1) k := by
  obtain ⟨f, h1, hf⟩ := h
  obtain ⟨g, rfl⟩ : ∃ g, f = g + 1 := ⟨f - 1, by omega⟩
  rw [seeG_some hn hk, if_neg (by omega), if_pos hc] at hf
  exact ⟨g, by omega, hf⟩
theorem SeeAt.fault {v : Vis} {l : List Mv} {now k : Nat} (h : SeeAt v l now k) (hn : now < 61) (hk : k < l.length) {c : Int} (hc : chkM v (l.take k) now l[k] = c) (h0 : c ≠ 0) (h1 : c ≠ -1) : seeF v l = (k, c) := by
  obtain ⟨f, h2, hf⟩ := h
  obtain ⟨g, rfl⟩ : ∃ g, f = g + 1 := ⟨f - 1, by omega⟩
  rw [seeG_some hn hk, hc, if_neg h0, if_neg h1] at hf
  exact hf.symm
theorem outM_snoc (ms : List Mv) (m : Mv) (t k : Nat) : outM (ms ++ [m]) t k = outM ms t k + (if m.1.toNat = t ∧ m.2.1.toNat = k then m.2.2 else 0) := by
  unfold outM; rw [List.map_append, lsum_app]; simp [lsum]
theorem comM_snoc (v : Vis) (ms : List Mv) (m : Mv) (q t : Nat) : comM v (ms ++ [m]) q t = comM v ms q t + (if (v.far m.2.1.toNat).2.1.toNat = q ∧ m.1.toNat + (v.far m.2.1.toNat).2.2.1.toNat = t then m.2.2 else 0) := by
  unfold comM; rw [List.map_append, lsum_app]; simp [lsum]
theorem lefM_snoc (v : Vis) (ms : List Mv) (m : Mv) (q t : Nat) : lefM v (ms ++ [m]) q t = lefM v ms q t + (if m.1.toNat = t ∧ (v.far m.2.1.toNat).1.toNat = q then m.2.2 else 0) := by
  unfold lefM; rw [List.map_append, lsum_app]; simp [lsum]
/-- A move right for the visit. -/
structure MvOk (v : Vis) (m : Mv) : Prop where
  t : 0 ≤ m.1 ∧ m.1 ≤ 60
  k : 0 ≤ m.2.1 ∧ m.2.1.toNat < v.tr.length
  c : 1 ≤ m.2.2 ∧ m.2.2 ≤ 1000
theorem mvOk_iff {v : Vis} {m : Mv} : mvOk v m = true ↔ MvOk v m := by
  unfold mvOk inB
  simp only [Bool.and_eq_true, decide_eq_true_eq]
  constructor
  · rintro ⟨⟨⟨h1, h2⟩, h3, h4⟩, h5, h6⟩
    exact ⟨⟨h5, h6⟩, ⟨h1, by omega⟩, ⟨h3, h4⟩⟩
  · rintro ⟨⟨h5, h6⟩, ⟨h1, h2⟩, ⟨h3, h4⟩⟩
    exact ⟨⟨⟨h1, by omega⟩, h3, h4⟩, h5, h6⟩
theorem Vis.far_at (v : Vis) {k : Nat} (h : k < v.tr.length) : v.far k = v.tr[k] := by simp [Vis.far, List.getD_eq_getElem?_getD, h]
theorem far_ok {v : Vis} (hv : VisOk v) {k : Nat} (h : k < v.tr.length) : (0 ≤ (v.far k).1 ∧ (v.far k).1 ≤ (v.n : Int) - 1) ∧ (0 ≤ (v.far k).2.1 ∧ (v.far k).2.1 ≤ (v.n : Int) - 1) ∧ (v.far k).1 ≠ (v.far k).2.1 ∧ (1 ≤ (v.far k).2.2.1 ∧ (v.far k).2.2.1 ≤ 60) ∧ (0 ≤ (v.far k).2.2.2 ∧ (v.far k).2.2.2 ≤ 1000) := by
  rw [v.far_at h]
  exact hv.tr _ (List.getElem_mem h)
/-- Moves that were made till a minute. -/
def MadeTo (v : Vis) (ms : List Mv) (now : Nat) : Prop := ∀ m, m ∈ ms → MvOk v m ∧ m.1.toNat < now
theorem MadeTo.mono {v : Vis} {ms : List Mv} {a b : Nat} (h : MadeTo v ms a) (hab : a ≤ b) : MadeTo v ms b := fun m hm => ⟨(h m hm).1, by have := (h m hm).2; omega⟩
theorem MadeTo.nil (v : Vis) (a : Nat) : MadeTo v [] a := fun m hm => by cases hm
theorem MadeTo.snoc {v : Vis} {ms : List Mv} {a : Nat} (h : MadeTo v ms a) {m : Mv} (hm : MvOk v m) (ha : m.1.toNat < a) : MadeTo v (ms ++ [m]) a := fun x hx => by
  rcases List.mem_append.1 hx with hx | hx
  · exact h x hx
  · rw [List.mem_singleton] at hx; subst hx; exact ⟨hm, ha⟩
theorem lsum_zero {α : Type} (f : α → Int) : ∀ l : List α, (∀ x, x ∈ l → f x = 0) → lsum (l.map f) = 0
  | [], _ => rfl
  | a :: l, h => by rw [List.map_cons, lsum_cons, h a (by simp), lsum_zero f l (fun x hx => h x (by simp [hx]))]; rfl
theorem outM_new {v : Vis} {ms : List Mv} {now t : Nat} (h : MadeTo v ms now) (ht : now ≤ t) (k : Nat) : outM ms t k = 0 :=
  lsum_zero _ ms fun m hm => if_neg fun e => by have := (h m hm).2; omega
theorem lefM_new {v : Vis} {ms : List Mv} {now t : Nat} (h : MadeTo v ms now) (ht : now ≤ t) (q : Nat) : lefM v ms q t = 0 :=
  lsum_zero _ ms fun m hm => if_neg fun e => by have := (h m hm).2; omega
/-- A move that is made later turns nothing of what was. -/
theorem thM_snoc {v : Vis} (hv : VisOk v) {ms : List Mv} {m : Mv} (hm : MvOk v m) (q : Nat) : ∀ t, t ≤ m.1.toNat → thM v (ms ++ [m]) q t = thM v ms q t
  | 0, _ => rfl
  | t + 1, h => by
    have hf := far_ok hv hm.k.2
    rw [thM, thM, thM_snoc hv hm q t (by omega), lefM_snoc, if_neg (by omega), comA, comA, comM_snoc, if_neg (by omega)]
    simp
theorem begM_snoc {v : Vis} (hv : VisOk v) {ms : List Mv} {m : Mv} (hm : MvOk v m) (q t : Nat) (h : t ≤ m.1.toNat) : begM v (ms ++ [m]) q t = begM v ms q t := by
  have hf := far_ok hv hm.k.2
  rw [begM, begM, thM_snoc hv hm q t h, comA, comA, comM_snoc, if_neg (by omega)]
  simp
theorem comM_snoc' {v : Vis} {ms : List Mv} {m : Mv} {q t : Nat} (h : (v.far m.2.1.toNat).2.1.toNat ≠ q ∨ m.1.toNat + (v.far m.2.1.toNat).2.2.1.toNat ≠ t) : comM v (ms ++ [m]) q t = comM v ms q t := by
  rw [comM_snoc, if_neg (fun e => h.elim (fun h => h e.1) (fun h => h e.2))]
  simp
/-- All people of some moves. -/
theorem lsum_le {α : Type} (f : α → Int) (c : Int) (hc : 0 ≤ c) : ∀ l : List α, (∀ x, x ∈ l → 0 ≤ f x ∧ f x ≤ c) → 0 ≤ lsum (l.map f) ∧ lsum (l.map f) ≤ c * l.length
  | [], _ => by simp [lsum]
  | a :: l, h => by
    have h1 := h a (by simp)
    have h2 := lsum_le f c hc l fun x hx => h x (by simp [hx])
    rw [List.map_cons, lsum_cons, List.length_cons]
    have e : c * ((l.length + 1 : Nat) : Int) = c * l.length + c := by push_cast; rw [Int.mul_add, Int.mul_one]
    omega
theorem outM_le {v : Vis} {ms : List Mv} {now : Nat} (h : MadeTo v ms now) (t k : Nat) : 0 ≤ outM ms t k ∧ outM ms t k ≤ 1000 * ms.length :=
  lsum_le _ 1000 (by omega) ms fun m hm => by have := (h m hm).1.c; split <;> omega
theorem comM_le {v : Vis} {ms : List Mv} {now : Nat} (h : MadeTo v ms now) (q t : Nat) : 0 ≤ comM v ms q t ∧ comM v ms q t ≤ 1000 * ms.length :=
  lsum_le _ 1000 (by omega) ms fun m hm => by have := (h m hm).1.c; split <;> omega
theorem lefM_le {v : Vis} {ms : List Mv} {now : Nat} (h : MadeTo v ms now) (q t : Nat) : 0 ≤ lefM v ms q t ∧ lefM v ms q t ≤ 1000 * ms.length :=
  lsum_le _ 1000 (by omega) ms fun m hm => by have := (h m hm).1.c; split <;> omega
theorem arrive_top {v : Vis} (hv : VisOk v) (q t : Nat) : 0 ≤ arrive v q t ∧ arrive v q t ≤ 16000 := by
  have h := lsum_le (fun a : Int × Int × Int => if a.2.1.toNat = q ∧ a.1.toNat = t then a.2.2 else 0) 1000 (by omega) v.ar fun a ha => by
    have := (hv.ar a ha).2.2; split <;> omega
  have := hv.al
  unfold arrive
  omega
theorem comA_le {v : Vis} (hv : VisOk v) {ms : List Mv} {now : Nat} (h : MadeTo v ms now) (h256 : ms.length ≤ 256) (q t : Nat) : 0 ≤ comA v ms q t ∧ comA v ms q t ≤ 272000 := by
  have h1 := arrive_top hv q t
  have h2 := comM_le h q t
  unfold comA
  omega
/-- No place has fewer than none. -/
def NoneLess (v : Vis) (ms : List Mv) (t : Nat) : Prop := ∀ q, q < v.n → 0 ≤ thM v ms q t
theorem begM_le {v : Vis} (hv : VisOk v) {ms : List Mv} {now : Nat} (h : MadeTo v ms now) (h256 : ms.length ≤ 256) {q : Nat} (hq : q < v.n) {t : Nat} (h0 : 0 ≤ thM v ms q t) : 0 ≤ begM v ms q t ∧ begM v ms q t ≤ 273000 := by
  have h1 := comA_le hv h h256 q t
  have h2 := hv.room q hq
  unfold begM
  omega
/-- By trails, as the document reckons it. -/
def infl (v : Vis) (ms : List Mv) (q t : Nat) (j : Nat) : Int := sumK (fun k => if (v.far k).2.1.toNat = q ∧ (v.far k).2.2.1.toNat ≤ t then outM ms (t - (v.far k).2.2.1.toNat) k else 0) j
theorem infl_snoc {v : Vis} (ms : List Mv) (m : Mv) (q t : Nat) : ∀ j, infl v (ms ++ [m]) q t j = infl v ms q t j + (if m.2.1.toNat < j ∧ (v.far m.2.1.toNat).2.1.toNat = q ∧ m.1.toNat + (v.far m.2.1.toNat).2.2.1.toNat = t then m.2.2 else 0)
  | 0 => by simp [infl, sumK]
  | j + 1 => by
    have ih := infl_snoc (v := v) ms m q t j
    unfold infl at ih ⊢
    rw [sumK_succ, sumK_succ, ih, outM_snoc]
    by_cases e : m.2.1.toNat = j
    · subst e
      by_cases h1 : (v.far m.2.1.toNat).2.1.toNat = q
      · by_cases h2 : (v.far m.2.1.toNat).2.2.1.toNat ≤ t
        · by_cases h3 : m.1.toNat + (v.far m.2.1.toNat).2.2.1.toNat = t
          · rw [if_neg (by omega), if_pos ⟨h1, h2⟩, if_pos ⟨by omega, rfl⟩, if_pos ⟨h1, h2⟩, if_pos ⟨by omega, h1, h3⟩]; omega
          · rw [if_neg (by omega), if_pos ⟨h1, h2⟩, if_neg (by omega), if_pos ⟨h1, h2⟩, if_neg (fun e => h3 e.2.2)]; omega
        · rw [if_neg (by omega), if_neg (fun e => h2 e.2), if_neg (fun e => h2 e.2), if_neg (by omega)]
      · rw [if_neg (fun e => h1 e.2.1), if_neg (fun e => h1 e.1), if_neg (fun e => h1 e.1), if_neg (fun e => h1 e.2.1)]
    · have e3 : (if m.1.toNat = t - (v.far j).2.2.1.toNat ∧ m.2.1.toNat = j then m.2.2 else 0) = 0 := if_neg fun h => e h.2
      have e4 : (if m.2.1.toNat < j + 1 ∧ (v.far m.2.1.toNat).2.1.toNat = q ∧ m.1.toNat + (v.far m.2.1.toNat).2.2.1.toNat = t then m.2.2 else 0) = (if m.2.1.toNat < j ∧ (v.far m.2.1.toNat).2.1.toNat = q ∧ m.1.toNat + (v.far m.2.1.toNat).2.2.1.toNat = t then m.2.2 else 0) := by
        by_cases h1 : m.2.1.toNat < j ∧ (v.far m.2.1.toNat).2.1.toNat = q ∧ m.1.toNat + (v.far m.2.1.toNat).2.2.1.toNat = t
        · rw [if_pos h1, if_pos ⟨by omega, h1.2⟩]
        · rw [if_neg h1, if_neg (fun h => h1 ⟨by omega, h.2⟩)]
      rw [e3, e4]
      simp only [Int.add_zero]
      omega
theorem infl_zero (v : Vis) (q t : Nat) : ∀ j, infl v [] q t j = 0
  | 0 => rfl
  | j + 1 => by
    have ih := infl_zero v q t j
    unfold infl at ih ⊢
    rw [sumK_succ, ih]
    split <;> simp [outM, lsum]
theorem infl_all {v : Vis} {now : Nat} (q t : Nat) (ms : List Mv) (h : MadeTo v ms now) : infl v ms q t v.tr.length = comM v ms q t := by
  have key : ∀ k, k ≤ ms.length → infl v (ms.take k) q t v.tr.length = comM v (ms.take k) q t := fun k => by
    induction k with
    | zero => intro _; rw [List.take_zero, infl_zero]; rfl
    | succ k ih =>
      intro hk
      have hm := (h ms[k] (List.getElem_mem (by omega))).1
      rw [List.take_succ_eq_append_getElem (by omega), infl_snoc, comM_snoc, ih (by omega)]
      congr 1
      by_cases e : (v.far ms[k].2.1.toNat).2.1.toNat = q ∧ ms[k].1.toNat + (v.far ms[k].2.1.toNat).2.2.1.toNat = t
      · rw [if_pos e, if_pos ⟨hm.k.2, e⟩]
      · rw [if_neg e, if_neg (fun h => e h.2)]
  have := key ms.length (Nat.le_refl _)
  rwa [List.take_length] at this
end Go.Proofs.YtomfnldlnoiloaaDoor
/- Crowd, plain: the rounds of See. -/
namespace Go.Proofs.YtomfnldlnoiloaaDoor
set_option linter.unusedVariables false
set_option linter.unusedSimpArgs false

/-- Where See stands: k moves are made, in minute now; till t all is reckoned. -/
structure SeeP (v : Vis) (l : List Mv) (now k t : Nat) : Prop where
  at_ : SeeAt v l now k
  made : MadeTo v (l.take k) t
  le : k ≤ l.length
  nn : ∀ q, q < v.n → 0 ≤ thM v (l.take k) q t
/-- How many were seen to see. -/
def pvF (v : Vis) (l : List Mv) (p m t k : Nat) : Int := if m < t then min (begM v (l.take k) p m) (v.room p) else 0
theorem SeeP.start (v : Vis) (l : List Mv) : SeeP v l 0 0 0 := ⟨SeeAt.start v l, MadeTo.nil v 0, Nat.zero_le _, fun q _ => Int.le_refl _⟩
theorem SeeP.begun {v : Vis} (hv : VisOk v) {l : List Mv} {now k : Nat} (h : SeeP v l now k now) : SeeP v l now k (now + 1) ∧ ∀ q, thM v (l.take k) q (now + 1) = begM v (l.take k) q now := by
  have e : ∀ q, thM v (l.take k) q (now + 1) = begM v (l.take k) q now := fun q => by rw [thM_succ, lefM_new h.made (Nat.le_refl _)]; omega
  refine ⟨⟨h.at_, h.made.mono (by omega), h.le, fun q hq => ?_⟩, e⟩
  rw [e]
  have h1 := h.nn q hq
  have h2 := hv.room q hq
  have h3 := arrive_top hv q now
  have h4 := comM_le h.made q now
  unfold begM comA
  omega
theorem SeeP.later {v : Vis} {l : List Mv} {now k : Nat} (h : SeeP v l now k (now + 1)) (hn : now < 61) (hk : k < l.length) (hc : chkM v (l.take k) now l[k] = -1) : SeeP v l (now + 1) k (now + 1) := ⟨h.at_.later hn hk hc, h.made, h.le, h.nn⟩
theorem SeeP.done {v : Vis} {l : List Mv} {now k : Nat} (h : SeeP v l now k (now + 1)) (hn : now < 61) (hk : l.length ≤ k) : SeeP v l (now + 1) k (now + 1) := ⟨h.at_.done hn hk, h.made, h.le, h.nn⟩
theorem take_succ {l : List Mv} {k : Nat} (hk : k < l.length) : l.take (k + 1) = l.take k ++ [l[k]] := List.take_succ_eq_append_getElem hk
/-- A move that is made. -/
theorem SeeP.make {v : Vis} (hv : VisOk v) {l : List Mv} {now k : Nat} (h : SeeP v l now k (now + 1)) (hn : now < 61) (hk : k < l.length) (hc : chkM v (l.take k) now l[k] = 0) (hm : MvOk v l[k]) (ht : l[k].1.toNat = now) (hle : l[k].2.2 ≤ thM v (l.take k) (v.far l[k].2.1.toNat).1.toNat (now + 1)) :
    SeeP v l now (k + 1) (now + 1) ∧
    (∀ q, thM v (l.take (k + 1)) q (now + 1) = if q = (v.far l[k].2.1.toNat).1.toNat then thM v (l.take k) q (now + 1) - l[k].2.2 else thM v (l.take k) q (now + 1)) ∧
    (∀ q u, comA v (l.take (k + 1)) q u = if q = (v.far l[k].2.1.toNat).2.1.toNat ∧ u = now + (v.far l[k].2.1.toNat).2.2.1.toNat then comA v (l.take k) q u + l[k].2.2 else comA v (l.take k) q u) ∧
    (∀ j, outM (l.take (k + 1)) now j = if j = l[k].2.1.toNat then outM (l.take k) now j + l[k].2.2 else outM (l.take k) now j) ∧
    (∀ p m, pvF v l p m (now + 1) (k + 1) = pvF v l p m (now + 1) k) := by
  have e := take_succ hk
  have hth : ∀ q, thM v (l.take (k + 1)) q (now + 1) = if q = (v.far l[k].2.1.toNat).1.toNat then thM v (l.take k) q (now + 1) - l[k].2.2 else thM v (l.take k) q (now + 1) := fun q => by
    rw [e, thM_succ, thM_succ, begM_snoc hv hm q now (by omega), lefM_snoc]
    by_cases e1 : q = (v.far l[k].2.1.toNat).1.toNat
    · rw [if_pos e1, if_pos ⟨ht, e1.symm⟩]; omega
    · rw [if_neg e1, if_neg (fun h => e1 h.2.symm)]; omega
  refine ⟨⟨h.at_.make hn hk hc, ?_, by omega, fun q hq => ?_⟩, hth, fun q u => ?_, fun j => ?_, fun p m => ?_⟩
  · rw [e]; exact h.made.snoc hm (by omega)
  · rw [hth]
    have := h.nn q hq
    by_cases e1 : q = (v.far l[k].2.1.toNat).1.toNat
    · rw [if_pos e1]; rw [e1]; omega
    · rw [if_neg e1]; exact this
  · rw [e, comA, comA, comM_snoc]
    by_cases e1 : q = (v.far l[k].2.1.toNat).2.1.toNat ∧ u = now + (v.far l[k].2.1.toNat).2.2.1.toNat
    · rw [if_pos e1, if_pos ⟨e1.1.symm, by omega⟩]; omega
    · rw [if_neg e1, if_neg (fun h => e1 ⟨h.1.symm, by omega⟩)]; omega
  · rw [e, outM_snoc]
    by_cases e1 : j = l[k].2.1.toNat
    · rw [if_pos e1, if_pos ⟨ht, e1.symm⟩]
    · rw [if_neg e1, if_neg (fun h => e1 h.2.symm)]; omega
  · unfold pvF
    by_cases e1 : m < now + 1
    · rw [if_pos e1, if_pos e1, e, begM_snoc hv hm p m (by omega)]
    · rw [if_neg e1, if_neg e1]
theorem SeeP.top {v : Vis} (hv : VisOk v) {l : List Mv} {now k t : Nat} (h : SeeP v l now k t) (h256 : l.length ≤ 256) : (∀ q, q < v.rm.length → 0 ≤ thM v (l.take k) q t ∧ thM v (l.take k) q t ≤ 1000000) ∧ (∀ q u, 0 ≤ comA v (l.take k) q u ∧ comA v (l.take k) q u ≤ 1000000) ∧ ∀ u j, 0 ≤ outM (l.take k) u j ∧ outM (l.take k) u j ≤ 1000000 := by
  have hl : (l.take k).length ≤ 256 := by rw [List.length_take]; omega
  have hco := fun q u => comA_le hv h.made hl q u
  refine ⟨fun q hq => ⟨h.nn q hq, ?_⟩, fun q u => ⟨(hco q u).1, by have := (hco q u).2; omega⟩, fun u j => by have := outM_le h.made u j; omega⟩
  cases t with
  | zero => simp [thM]
  | succ t =>
    have h1 := lefM_le h.made q t
    have h2 := hco q t
    have h3 := hv.room q hq
    rw [thM_succ]
    unfold begM
    omega
theorem seeV_err {v : Vis} {l : List Mv} {p m : Int} (h : errN v p m ≠ 0) : seeV v l p m = (0, 0, errN v p m) := by unfold seeV; rw [if_neg h]
theorem seeV_long {v : Vis} {l : List Mv} {p m : Int} (h : errN v p m = 0) (hl : ¬ l.length ≤ 256) : seeV v l p m = (0, 0, 3) := by unfold seeV; rw [if_pos h, if_neg hl]
theorem seeV_fault {v : Vis} {l : List Mv} {p m : Int} (h : errN v p m = 0) (hl : l.length ≤ 256) {k : Nat} {c : Int} (hs : seeF v l = (k, c)) (hc : c ≠ 0) : seeV v l p m = (0, (k : Int), c) := by unfold seeV; rw [if_pos h, if_pos hl, hs, if_neg hc]
theorem seeV_ok {v : Vis} {l : List Mv} {p m : Nat} (h : errN v p m = 0) (hl : l.length ≤ 256) {k : Nat} (hs : seeF v l = (k, 0)) (hm : m ≤ 60) : seeV v l p m = (pvF v l p m 61 k, (k : Int), 0) := by
  unfold seeV pvF
  rw [if_pos h, if_pos hl, hs, if_pos rfl, if_pos (by omega)]
  simp
end Go.Proofs.YtomfnldlnoiloaaDoor
