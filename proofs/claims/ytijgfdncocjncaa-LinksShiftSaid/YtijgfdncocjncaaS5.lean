/- What a link explains, and what refutes it, of the program. -/
import Derived.Test.YtijgfdncocjncaaS4
namespace Go.Proofs.Ytijgfdncocjncaa
set_option linter.unusedVariables false
set_option linter.unusedSimpArgs false
open Go Go.RowKit

def delB (x : Wat) (t a b : Nat) : Bool := inB (x.tm b - x.tm a) (x.dl t) (x.dh t)
/-- What the first of a spring's eruptions explain. -/
def expK (x : Wat) (f t j b : Nat) : Bool := ((own x f).take j).any fun a => (own x t).contains b && delB x t a b
def expJ (x : Wat) (f t j a k b : Nat) : Bool := expK x f t j b || (((own x t).take k).contains b && delB x t a b)
def folK (x : Wat) (t a k : Nat) : Bool := ((own x t).take k).any fun b => delB x t a b
def refK (x : Wat) (f t j : Nat) : Option Nat := ((own x f).take j).find? (refB x f t)
theorem expJ_succ {x : Wat} {f t j a k : Nat} (hk : k < (own x t).length) (b : Nat) : expJ x f t j a (k + 1) b = (expJ x f t j a k b || (b == (own x t)[k] && delB x t a (own x t)[k])) := by
  unfold expJ
  rw [List.take_succ_eq_append_getElem hk, List.contains_append]
  by_cases h : b = (own x t)[k]
  · subst h
    cases delB x t a (own x t)[k] <;> simp
  · simp [h]
theorem expJ_set {x : Wat} {f t j a k : Nat} (hk : k < (own x t).length) : setN (expJ x f t j a (k + 1)) = if delB x t a (own x t)[k] then setN (expJ x f t j a k) ||| setN (fun i => i == (own x t)[k]) else setN (expJ x f t j a k) := by
  split
  · rename_i h
    rw [setN_or]
    exact setN_congr fun i _ => by rw [expJ_succ hk, h, Bool.and_true]
  · rename_i h
    exact setN_congr fun i _ => by rw [expJ_succ hk, bool_false h, Bool.and_false, Bool.or_false]
theorem expJ_zero (x : Wat) (f t j a : Nat) : setN (expJ x f t j a 0) = setN (expK x f t j) := setN_congr fun i _ => by simp [expJ]
theorem expJ_all {x : Wat} {f t j : Nat} (hj : j < (own x f).length) : setN (expJ x f t j (own x f)[j] (own x t).length) = setN (expK x f t (j + 1)) := setN_congr fun i _ => by
  unfold expJ expK
  rw [List.take_length, List.take_succ_eq_append_getElem hj, List.any_append]
  simp
theorem folK_succ {x : Wat} {t a k : Nat} (hk : k < (own x t).length) : folK x t a (k + 1) = (folK x t a k || delB x t a (own x t)[k]) := by
  unfold folK
  rw [List.take_succ_eq_append_getElem hk, List.any_append]
  simp
theorem fol_any {x : Wat} {f t a : Nat} (ha : x.sp a = (f : Int)) : ((List.range x.m).any fun k => folB x f t k a) = folK x t a (own x t).length := by
  unfold folK
  rw [List.take_length, Bool.eq_iff_iff, List.any_eq_true, List.any_eq_true]
  constructor
  · rintro ⟨k, hk, h⟩
    unfold folB at h
    simp only [Bool.and_eq_true, beq_iff_eq] at h
    exact ⟨k, mem_own.2 ⟨List.mem_range.1 hk, h.2.1⟩, h.2.2⟩
  · rintro ⟨k, hk, h⟩
    obtain ⟨h1, h2⟩ := mem_own.1 hk
    refine ⟨k, List.mem_range.2 h1, ?_⟩
    unfold folB
    simp only [Bool.and_eq_true, beq_iff_eq]
    exact ⟨ha, h2, h⟩
theorem refB_at {x : Wat} {f t j : Nat} (hj : j < (own x f).length) : refB x f t (own x f)[j] = (decide (x.tm (own x f)[j] + x.dh t ≤ x.en) && !folK x t (own x f)[j] (own x t).length) := by
  obtain ⟨_, h2, _⟩ := own_at_ hj
  unfold refB
  rw [fol_any h2]
  simp [h2]
theorem refK_succ {x : Wat} {f t j : Nat} (hj : j < (own x f).length) : refK x f t (j + 1) = (refK x f t j).or (if refB x f t (own x f)[j] then some (own x f)[j] else none) := by
  unfold refK
  rw [List.take_succ_eq_append_getElem hj, List.find?_append]
  cases h : refB x f t (own x f)[j] <;> simp [h]
theorem refK_all (x : Wat) (f t : Nat) : refK x f t (own x f).length = ref x f t := by
  unfold refK ref own ownTo
  rw [List.take_of_length_le (Nat.le_refl _), List.find?_filter]
  congr 1
  funext a
  unfold refB
  rw [Bool.eq_iff_iff]
  cases h : (x.sp a == (f : Int)) <;> simp
theorem expK_all {x : Wat} {f t : Nat} : setN (expK x f t (own x f).length) = setN (expP x f t) := setN_congr fun b _ => by
  unfold expK expP expB
  rw [List.take_length, Bool.eq_iff_iff, List.any_eq_true, Bool.and_eq_true, decide_eq_true_iff, List.any_eq_true]
  constructor
  · rintro ⟨a, ha, h⟩
    rw [Bool.and_eq_true, List.contains_iff_mem] at h
    obtain ⟨h1, h2⟩ := mem_own.1 ha
    obtain ⟨h3, h4⟩ := mem_own.1 h.1
    refine ⟨h3, a, List.mem_range.2 h1, ?_⟩
    unfold folB
    simp only [Bool.and_eq_true, beq_iff_eq]
    exact ⟨h2, h4, h.2⟩
  · rintro ⟨hb, a, ha, h⟩
    unfold folB at h
    simp only [Bool.and_eq_true, beq_iff_eq] at h
    refine ⟨a, mem_own.2 ⟨List.mem_range.1 ha, h.1⟩, ?_⟩
    rw [Bool.and_eq_true, List.contains_iff_mem]
    exact ⟨mem_own.2 ⟨hb, h.2.1⟩, h.2.2⟩
theorem optI_or (o p : Option Nat) : optI (o.or p) = if optI o < 0 then optI p else optI o := by
  cases o with
  | none => simp [optI]
  | some a =>
    have h : ¬ optI (some a) < 0 := by simp [optI]
    rw [if_neg h]
    rfl
theorem optI_lo (o : Option Nat) : -1 ≤ optI o := by
  cases o with
  | none => simp [optI]
  | some a => simp only [optI]; omega
set_option maxRecDepth 100000 in
set_option maxHeartbeats 8000000 in
theorem explained31 (x : Wat) (P f t : Nat) (A B : Option Addr) (c d : Nat) (D : Option Addr) (cs : Nat) (w : World) (hx : WatOk x) (hR : Run w P x A B c d D cs) (hf : f < x.hb.length) (ht : t < x.hb.length) :
    Calls Try.prog 31 #[.pointer (some ⟨P, 0, none⟩), .agg #[I f, I t]] w fun e w' => e = .returned (.tuple #[U64 (setN (expP x f t)), I (optI (ref x f t))]) ∧ Below w.heap.size w w' := by
  have hn6 : x.hb.length ≤ 6 := hx.n6
  have hm64 : x.er.length ≤ 64 := hx.m64
  have HRR : Hid (∀ W, Below w.heap.size w W → Run W P x A B c d D cs) := Lib.hid fun W hB => hR.call hB
  have HER : Hid (∀ k (h : k < x.er.length), x.er[k].1 = x.sp k ∧ x.er[k].2 = x.tm k) := Lib.hid fun k h => by rw [er_get x h]; exact ⟨rfl, rfl⟩
  have HTM : Hid (∀ k, k < x.er.length → 0 ≤ x.tm k ∧ x.tm k ≤ 1048576) := Lib.hid fun k hk => by
    have h1 := (hx.eru k hk).tm
    have h2 := hx.en
    omega
  have hdel := (hx.hab t ht).del
  have hen := hx.en
  have HOW : Hid (∀ t j (h : j < (own x t).length), (own x t)[j] < x.er.length) := Lib.hid fun t j h => (own_at_ h).1
  have HJS : Hid (∀ j a k (h : k < (own x t).length), setN (expJ x f t j a (k + 1)) = if delB x t a (own x t)[k] then setN (expJ x f t j a k) ||| setN (fun i => i == (own x t)[k]) else setN (expJ x f t j a k)) := Lib.hid fun j a k h => expJ_set h
  have HJ0 : Hid (∀ j a, setN (expJ x f t j a 0) = setN (expK x f t j)) := Lib.hid (expJ_zero x f t)
  have HJE : Hid (∀ j (h : j < (own x f).length), setN (expJ x f t j (own x f)[j] (own x t).length) = setN (expK x f t (j + 1))) := Lib.hid fun j h => expJ_all h
  have HFS : Hid (∀ a k (h : k < (own x t).length), folK x t a (k + 1) = (folK x t a k || delB x t a (own x t)[k])) := Lib.hid fun a k h => folK_succ h
  have HF0 : Hid (∀ a, folK x t a 0 = false) := Lib.hid fun a => rfl
  have HRS : Hid (∀ j (h : j < (own x f).length), optI (refK x f t (j + 1)) = if optI (refK x f t j) < 0 then (if (decide (x.tm (own x f)[j] + x.dh t ≤ x.en) && !folK x t (own x f)[j] (own x t).length) then (((own x f)[j] : Nat) : Int) else -1) else optI (refK x f t j)) := Lib.hid fun j h => by
    rw [refK_succ h, optI_or, refB_at h]
    congr 1
    cases (decide (x.tm (own x f)[j] + x.dh t ≤ x.en) && !folK x t (own x f)[j] (own x t).length) <;> rfl
  have HRL : Hid (∀ j, -1 ≤ optI (refK x f t j) ∧ (optI (refK x f t j) < 0 → optI (refK x f t j) = -1)) := Lib.hid fun j => ⟨optI_lo _, fun h => by have := optI_lo (refK x f t j); omega⟩
  have HLK : Hid (∀ j, setN (expK x f t j) < 18446744073709551616) := Lib.hid fun j => setN_lt _
  have HLJ : Hid (∀ j a k, setN (expJ x f t j a k) < 18446744073709551616) := Lib.hid fun j a k => setN_lt _
  have HE1 : Hid (setN (expK x f t (own x f).length) = setN (expP x f t)) := Lib.hid expK_all
  have HE2 : Hid (refK x f t (own x f).length = ref x f t) := Lib.hid (refK_all x f t)
  have HK0 : Hid (setN (expK x f t 0) = 0 ∧ optI (refK x f t 0) = -1) := Lib.hid ⟨setN_zero.2 fun i _ => by simp [expK], rfl⟩
  have HDB : Hid (∀ a b, delB x t a b = inB (x.tm b - x.tm a) (x.dl t) (x.dh t)) := Lib.hid fun a b => rfl
  have holf : (own x f).length ≤ 64 := by have := own_len x f x.m; have h2 : x.m ≤ 64 := hm64; unfold own; omega
  have holt : (own x t).length ≤ 64 := by have := own_len x t x.m; have h2 : x.m ≤ 64 := hm64; unfold own; omega
  have H48 : Hid (∀ (z : Int) (W : World), Calls Try.prog 48 #[.agg #[I (x.dl t), I (x.dh t)], I z] W fun e w' => e = .returned (.bool (inB z (x.dl t) (x.dh t))) ∧ Below W.heap.size W w') := Lib.hid fun z W => has48 _ _ _ W
  obtain ⟨S, Ot, ct, hD, hS, a0, a1, a2, a3, a4, hOt⟩ := hR.spr t ht
  obtain ⟨S', Of, cf, hD', _, _, _, _, _, b4, hOf⟩ := hR.spr f hf
  rw [hD] at hD'
  obtain rfl : S = S' := by simpa using hD'
  have HSP : Hid (∀ W, Below w.heap.size w W → (W.cell? ⟨S, t * 5, none⟩ = some (I (x.ol t)) ∧ W.cell? ⟨S, t * 5 + 1, none⟩ = some (I (x.oh t)) ∧ W.cell? ⟨S, t * 5 + 2, none⟩ = some (I (x.dl t)) ∧ W.cell? ⟨S, t * 5 + 3, none⟩ = some (I (x.dh t)) ∧ W.cell? ⟨S, t * 5 + 4, none⟩ = some (.slice Ot (own x t).length ct)) ∧ W.cell? ⟨S, f * 5 + 4, none⟩ = some (.slice Of (own x f).length cf)) := Lib.hid fun W hW =>
    ⟨⟨(hW.cell (p := ⟨S, _, none⟩) hS).trans a0, (hW.cell (p := ⟨S, _, none⟩) hS).trans a1, (hW.cell (p := ⟨S, _, none⟩) hS).trans a2, (hW.cell (p := ⟨S, _, none⟩) hS).trans a3, (hW.cell (p := ⟨S, _, none⟩) hS).trans a4⟩, (hW.cell (p := ⟨S, _, none⟩) hS).trans b4⟩
  have HOI : Hid (∀ W, Below w.heap.size w W → (∀ j (h : j < (own x t).length), ∃ ob oo, Ot = some ⟨ob, oo, none⟩ ∧ ob < w.heap.size ∧ W.cell? ⟨ob, oo + j, none⟩ = some (I ((own x t)[j] : Nat))) ∧ ∀ j (h : j < (own x f).length), ∃ ob oo, Of = some ⟨ob, oo, none⟩ ∧ ob < w.heap.size ∧ W.cell? ⟨ob, oo + j, none⟩ = some (I ((own x f)[j] : Nat))) := Lib.hid fun W hW => by
    refine ⟨fun j h => ?_, fun j h => ?_⟩
    · obtain ⟨ob, oo, e, hz, hc⟩ := hOt (by simp; omega)
      exact ⟨ob, oo, e, hz, (hW.cell (p := ⟨ob, _, none⟩) hz).trans (by rw [hc j (by simpa using h)]; simp)⟩
    · obtain ⟨ob, oo, e, hz, hc⟩ := hOf (by simp; omega)
      exact ⟨ob, oo, e, hz, (hW.cell (p := ⟨ob, _, none⟩) hz).trans (by rw [hc j (by simpa using h)]; simp)⟩
  subst hD
  have hPw := hR.lt
  rw [← HE1.out, ← HE2.out]
  have HBA : Hid (Below w.heap.size w (w.alloc (.cells #[I f, I t] 27))) := Lib.hid (below1 _ _)
  have HLB : Hid (Box (w.alloc (.cells #[I f, I t] 27)) w.heap.size [I f, I t]) := Lib.hid (Box.new w [I f, I t] 27)
  have hza : (w.alloc (.cells #[I f, I t] 27)).heap.size = w.heap.size + 1 := by simp
  clear hx hR hOt hOf a0 a1 a2 a3 a4 b4 HE1 HE2 hD'
  generalize x.ol t = o4 at *
  generalize x.oh t = o5 at *
  generalize x.dl t = o6 at *
  generalize x.dh t = o7 at *
  obtain ⟨en, henq⟩ : ∃ en, x.en = en := ⟨_, rfl⟩
  have HENQ := Lib.hid henq
  rw [henq] at hen HRS
  clear henq
  have t0 : (0 : Int) ≤ (t : Int) := by omega
  have t1 : (t : Int) < (x.hb.length : Int) := by omega
  have f0 : (0 : Int) ≤ (f : Int) := by omega
  have f1 : (f : Int) < (x.hb.length : Int) := by omega
  go_enter Try.func31, Try.ntmps31
  go_wp2_with (fail)
  generalize w.alloc (.cells #[I f, I t] 27) = wa at *
  have HCA : Hid (∀ W, Below wa.heap.size wa W → W.cell? ⟨P, 3, none⟩ = some (.slice (some ⟨S, 0, none⟩) x.hb.length cs) ∧ W.cell? ⟨w.heap.size, 0, none⟩ = some (I f) ∧ W.cell? ⟨w.heap.size, 1, none⟩ = some (I t) ∧ (W.cell? ⟨S, t * 5, none⟩ = some (I o4) ∧ W.cell? ⟨S, t * 5 + 1, none⟩ = some (I o5) ∧ W.cell? ⟨S, t * 5 + 2, none⟩ = some (I o6) ∧ W.cell? ⟨S, t * 5 + 3, none⟩ = some (I o7) ∧ W.cell? ⟨S, t * 5 + 4, none⟩ = some (.slice Ot (own x t).length ct)) ∧ W.cell? ⟨S, f * 5 + 4, none⟩ = some (.slice Of (own x f).length cf)) := Lib.hid fun W hW => by
    have hw := HBA.out.trans (hW.mono (by omega))
    exact ⟨(HRR.out W hw).sp0, ((HLB.out.call hW).at_ 0 _ rfl).1, ((HLB.out.call hW).at_ 1 _ rfl).1, (HSP.out W hw).1, (HSP.out W hw).2⟩
  go_cut [6] (fun s6 wx => ∃ T : Nat, s6 = .pointer (some ⟨T, 0, none⟩) ∧ wa.heap.size ≤ T ∧ T < wx.heap.size ∧ Below wa.heap.size wa wx ∧ Hid (Box wx T [I o4, I o5, I o6, I o7, .slice Ot (own x t).length ct]))
  case first =>
    refine wp_norm ?_
    refine (wpIn_wide (n := 9)).1 ?_
    refine wpIn_region_plan (Plan.ons [0, 1, 2, 3, 4, 5, 6, 7, 8, 9] .fin) [0, 1, 2, 3, 4, 5, 6, 7] (fun W' => Below wa.heap.size wa W') [9] rfl (by kernel_rfl) (by kernel_rfl) (fun _ _ _ _ _ h => by cases h.1) (Below.refl _ _).drew ?_
    (refine ordQ_held (.pointer (some ⟨P, 0, none⟩)) rfl rfl rfl rfl (fun W' hC' => ?_) (fun K hK => ?_); (focus (obtain _ := hC'; go_simp; try exact ⟨rfl, rfl⟩)); go_simp; refine hK _ ?_; clear hK K)
    (refine ordQ_held (.pointer (some ⟨P, 0, none⟩)) rfl rfl rfl rfl (fun W' hC' => ?_) (fun K hK => ?_); (focus (obtain _ := hC'; go_simp; try exact ⟨rfl, rfl⟩)); go_simp; refine hK _ ?_; clear hK K)
    (refine ordQ_held (.pointer (some ⟨P, 3, none⟩)) rfl rfl rfl rfl (fun W' hC' => ?_) (fun K hK => ?_); (focus (obtain _ := hC'; go_simp; try exact ⟨rfl, rfl⟩)); go_simp; refine hK _ ?_; clear hK K)
    (refine ordQ_held (.slice (some ⟨S, 0, none⟩) x.hb.length cs) rfl rfl rfl rfl (fun W' hC' => ?_) (fun K hK => ?_); (focus (obtain ⟨g0, g1, g2, g3, g4⟩ := HCA.out _ hC'; go_simp; try exact ⟨rfl, rfl⟩)); go_simp; refine hK _ ?_; clear hK K)
    (refine ordQ_held (.pointer (some ⟨w.heap.size, 1, none⟩)) rfl rfl rfl rfl (fun W' hC' => ?_) (fun K hK => ?_); (focus (obtain _ := hC'; go_simp; try exact ⟨rfl, rfl⟩)); go_simp; refine hK _ ?_; clear hK K)
    (refine ordQ_held (I t) rfl rfl rfl rfl (fun W' hC' => ?_) (fun K hK => ?_); (focus (obtain ⟨g0, g1, g2, g3, g4⟩ := HCA.out _ hC'; go_simp; try exact ⟨rfl, rfl⟩)); go_simp; refine hK _ ?_; clear hK K)
    (refine ordQ_held (.pointer (some ⟨S, t * 5, none⟩)) rfl rfl rfl rfl (fun W' hC' => ?_) (fun K hK => ?_); (focus (obtain _ := hC'; go_simp; try exact ⟨rfl, rfl⟩)); go_simp; refine hK _ ?_; clear hK K)
    (refine ordQ_held (.agg #[I o4, I o5, I o6, I o7, .slice Ot (own x t).length ct]) rfl rfl rfl rfl (fun W' hC' => ?_) (fun K hK => ?_); (focus (obtain ⟨g0, g1, g2, ⟨g5, g6, g7, g8, g9⟩, g4⟩ := HCA.out _ hC'; go_simp; try exact ⟨rfl, rfl⟩)); go_simp; refine hK _ ?_; clear hK K)
    refine ordQ_hv rfl rfl rfl (fun K hK => ?_)
    gi_wp2
    refine hK _ _ (fun _ => ((Below.refl _ _).drew.alloc (by simp) _)) ?_
    clear hK K
    have HZX : Hid (Box (wa.drew.alloc (.cells #[I 0, I 0, I 0, I 0, .slice none 0 0] 90)) wa.heap.size [I 0, I 0, I 0, I 0, .slice none 0 0]) := Lib.hid (Box.new wa.drew [I 0, I 0, I 0, I 0, .slice none 0 0] 90)
    obtain ⟨z0, y0⟩ := HZX.out.at_ 0 _ rfl
    obtain ⟨z1, y1⟩ := HZX.out.at_ 1 _ rfl
    obtain ⟨z2, y2⟩ := HZX.out.at_ 2 _ rfl
    obtain ⟨z3, y3⟩ := HZX.out.at_ 3 _ rfl
    obtain ⟨z4, y4⟩ := HZX.out.at_ 4 _ rfl
    refine ordQ_hv rfl rfl rfl (fun K hK => ?_)
    gi_wp2
    refine hK _ _ (fun h => by cases h) ?_
    clear hK K
    refine ordQ_fin ?_
    refine ⟨rfl, ?_⟩
    go_wp2_with (fail)
    go_meet
    refine ⟨w.heap.size + 1, rfl, by omega, by simp; omega, ((Below.refl _ _).alloc (Nat.le_refl _) _).drew, Lib.hid ?_⟩
    have h := (Box.new wa [I o4, I o5, I o6, I o7, .slice Ot (own x t).length ct] 90).drew
    rwa [hza] at h
  case rest =>
    obtain ⟨T, rfl, hT1, hT2, hBx, HTB⟩ := hcut
    have hzc := hBx.size
    have HCB : Hid (∀ W, Below wc.heap.size wc W → W.cell? ⟨P, 3, none⟩ = some (.slice (some ⟨S, 0, none⟩) x.hb.length cs) ∧ W.cell? ⟨w.heap.size, 0, none⟩ = some (I f) ∧ W.cell? ⟨S, f * 5 + 4, none⟩ = some (.slice Of (own x f).length cf)) := Lib.hid fun W hW => by
      obtain ⟨n0, n1, _, _, n2⟩ := HCA.out W (hBx.trans (hW.mono hzc))
      exact ⟨n0, n1, n2⟩
    go_wp2_with (fail)
    refine (wpIn_wide (n := 9)).1 ?_
    refine wpIn_region_valsB [some 21, some 22, some 23, some 24, some 25, some 26, some 27, some 28, some 29, some 30, some 31]
      (nthV [.pointer (some ⟨P, 0, none⟩), .pointer (some ⟨P, 0, none⟩), .pointer (some ⟨P, 3, none⟩), .slice (some ⟨S, 0, none⟩) x.hb.length cs, .pointer (some ⟨w.heap.size, 0, none⟩), I f, .pointer (some ⟨S, f * 5, none⟩), .pointer (some ⟨S, f * 5 + 4, none⟩), .slice Of (own x f).length cf, I (own x f).length, I 0])
      [(0, .pointer (some ⟨P, 0, none⟩)), (3, .pointer (some ⟨w.heap.size, 0, none⟩))]
      (fun W => Below wc.heap.size wc W) rfl (by kernel_rfl) (fun _ => trivial) (by kernel_rfl) (by kernel_rfl) (by kernel_rfl) ⟨rfl, rfl, trivial⟩ (fun _ d _ _ _ h => by cases d <;> exact h) (by first | exact (Below.refl _ _).drew | exact (below_drewN (Below.refl _ _) _).drew) ?_ ?_
    · refine ⟨?_, ?_, ?_, ?_, ?_, ?_, ?_, ?_, ?_, ?_, ?_, trivial⟩
      all_goals (intro x0 W hC; obtain ⟨n0, n1, n2⟩ := HCB.out _ hC)
      all_goals first
        | (refine e_no rfl ?_; rfl)
        | (refine e_yes rfl ?_; intro b e hb K hK)
      all_goals first
        | (refine opE_li rfl hb ?_; simp only [execOp, resolve, Oper.about, envB, lookB, lookV, nthV, List.map_toArray, List.map_cons, List.map_nil, Nat.reduceEqDiff, reduceIte, Nat.succ_ne_zero, Nat.zero_ne_one, Nat.one_ne_zero, Nat.reduceAdd, Nat.zero_add]; go_simp; exact hK _ hC)
    · (intro W hC; have HC := Lib.hid hC; clear hC; simp only [putD, nthV, Act.put, List.setIfInBounds_toArray, List.set_cons_succ, List.set_cons_zero, Nat.zero_add, Nat.reduceAdd])
      have hCo := HC.out
      clear HC
      go_wp2_with (fail)
      go_loopw [4, 5, 31] (fun s4 s5 s31 wr => ∃ j : Nat, j ≤ (own x f).length ∧ s31 = I j ∧ s4 = U64 (setN (expK x f t j)) ∧ s5 = I (optI (refK x f t j)) ∧ Below wc.heap.size wc wr) (fun _ _ s _ => (own x f).length - (intOf s).toNat)
      case atStart => exact ⟨0, by omega, rfl, by rw [HK0.out.1]; rfl, by rw [HK0.out.2], hCo⟩
      case round =>
        clear hCo
        obtain ⟨j, hj, rfl, rfl, rfl, hB⟩ := hrel
        have hzr := hB.size
        have hBa : Below wa.heap.size wa wr := hBx.trans (hB.mono hzc)
        have hBw : Below w.heap.size w wr := HBA.out.trans (hBa.mono (by omega))
        have hlS := HLK.out j
        by_cases hlt : j < (own x f).length
        · have HRr := Lib.hid (HRR.out _ hBw)
          have c1 := HRr.out.er0
          have hil := HOW.out f j hlt
          obtain ⟨oa, op_, hOe, hoz, ro⟩ := (HOI.out _ hBw).2 j hlt
          subst hOe
          obtain ⟨eb, eo, hBe, hez, hec⟩ := HRr.out.wat.er (by omega)
          subst hBe
          obtain ⟨_, m0⟩ := hec _ hil
          rw [(HER.out _ hil).2] at m0
          have ba := HTM.out _ hil
          have HRSj := Lib.hid (HRS.out j hlt)
          have HJEj := Lib.hid (HJE.out j hlt)
          obtain ⟨hr1, hr2⟩ := HRL.out j
          have HTr := Lib.hid (HTB.out.call hB)
          obtain ⟨y4, _⟩ := HTr.out.at_ 4 _ rfl
          have p0 : (0 : Int) ≤ (j : Int) := by omega
          have p1 : (j : Int) < ((own x f).length : Int) := by omega
          clear hec
          generalize (own x f)[j] = a at *
          have p2 : (0 : Int) ≤ (a : Int) := by omega
          have p3 : (a : Int) < (x.er.length : Int) := by omega
          have HJ0a := Lib.hid (HJ0.out j a)
          have HDBa := Lib.hid (HDB.out a)
          obtain ⟨at_, hat⟩ : ∃ at_, x.tm a = at_ := ⟨_, rfl⟩
          rw [hat] at m0 ba HRSj HDBa
          clear hat
          have HR2 := Lib.hid hr2
          generalize optI (refK x f t j) = r at *
          clear hr2
          go_wp2_with (fail)
          clear ro m0 y4 c1
          rename_i wr_
          obtain ⟨wi, hwi⟩ : ∃ wi, wi = wr := ⟨_, rfl⟩
          rw [← hwi] at HRr HTr hB hBa hBw hzr ⊢
          clear hwi
          go_loopw [4, 10, 47] (fun s4 s10 s47 wr => ∃ k : Nat, k ≤ (own x t).length ∧ s47 = I k ∧ s4 = U64 (setN (expJ x f t j a k)) ∧ s10 = .bool (folK x t a k) ∧ Below wi.heap.size wi wr) (fun _ _ s _ => (own x t).length - (intOf s).toNat)
          case atStart => exact ⟨0, by omega, rfl, by rw [HJ0a.out], by rw [HF0.out], Below.refl _ _⟩
          case round =>
            obtain ⟨k, hk, rfl, rfl, rfl, hBi⟩ := hrel
            have hzi := hBi.size
            have hlS := HLJ.out j a k
            have hBiw : Below w.heap.size w wr := hBw.trans (hBi.mono (by have := hBw.size; omega))
            by_cases hlk : k < (own x t).length
            · have hib := HOW.out t k hlk
              obtain ⟨oa2, op2, hOe2, hoz2, ro2⟩ := (HOI.out _ hBiw).1 k hlk
              subst hOe2
              obtain ⟨eb', eo', hBe', hez', hec'⟩ := (HRr.out.call hBi).wat.er (by omega)
              obtain ⟨rfl, rfl⟩ : eb = eb' ∧ eo = eo' := by injection hBe' with h; injection h with h1 h2; exact ⟨h1, h2⟩
              obtain ⟨_, m1⟩ := hec' _ hib
              rw [(HER.out _ hib).2] at m1
              have bb := HTM.out _ hib
              have HSk := Lib.hid (HJS.out j a k hlk)
              have HFk := Lib.hid (HFS.out a k hlk)
              rw [HDBa.out (own x t)[k]] at HSk HFk
              clear hec' hBe'
              generalize (own x t)[k] = b at *
              generalize x.tm b = vb at *
              have q0 : (0 : Int) ≤ (k : Int) := by omega
              have q1 : (k : Int) < ((own x t).length : Int) := by omega
              have q2 : (0 : Int) ≤ (b : Int) := by omega
              have q3 : (b : Int) < (x.er.length : Int) := by omega
              have hwv : IntKind.i64.wrap (vb - at_) = vb - at_ := IntWalk.i64_in _ (by omega)
              have H48v : Hid (∀ W : World, Calls Try.prog 48 #[.agg #[I o6, I o7], I (vb - at_)] W fun e w' => e = .returned (.bool (inB (vb - at_) o6 o7)) ∧ Below W.heap.size W w') := Lib.hid fun W => H48.out _ W
              generalize inB (vb - at_) o6 o7 = hb at *
              have HCX : Hid (∀ W, Below wr.heap.size wr W → Box W T [I o4, I o5, I o6, I o7, .slice (some ⟨oa2, op2, none⟩) (own x t).length ct] ∧ W.cell? ⟨P, 1, none⟩ = some (.slice (some ⟨eb, eo, none⟩) x.er.length d) ∧ W.cell? ⟨eb, eo + b * 2 + 1, none⟩ = some (I vb)) := Lib.hid fun W hW =>
                ⟨(HTr.out.call hBi).call hW, ((HRr.out.call hBi).call hW).er0, (hW.cell (p := ⟨eb, _, none⟩) hez').trans m1⟩
              go_wp2_with (fail)
              refine (wpIn_wide (n := 9)).1 ?_
              refine wpIn_region_valsB [some 51, some 52, some 53, some 54, some 55, some 56, some 57, some 58, some 59, some 60, some 61, some 62, some 63, some 64, some 65]
                (nthV [.pointer (some ⟨T, 0, none⟩), .pointer (some ⟨T, 2, none⟩), .agg #[I o6, I o7], .pointer (some ⟨P, 0, none⟩), .pointer (some ⟨P, 0, none⟩), .pointer (some ⟨P, 0, none⟩), .pointer (some ⟨P, 1, none⟩), .slice (some ⟨eb, eo, none⟩) x.er.length d, I b, .pointer (some ⟨eb, eo + b * 2, none⟩), .pointer (some ⟨eb, eo + b * 2 + 1, none⟩), I vb, I at_, I (vb - at_), .bool hb])
                [(6, .pointer (some ⟨T, 0, none⟩)), (0, .pointer (some ⟨P, 0, none⟩)), (12, I b), (9, I at_)]
                (fun W => Below wr.heap.size wr W) rfl (by kernel_rfl) (fun _ => trivial) (by kernel_rfl) (by kernel_rfl) (by kernel_rfl) ⟨rfl, rfl, rfl, rfl, trivial⟩ (fun _ d _ _ _ h => by cases d <;> exact h) (by first | exact (Below.refl _ _).drew | exact (below_drewN (Below.refl _ _) _).drew) ?_ ?_
              · refine ⟨?_, ?_, ?_, ?_, ?_, ?_, ?_, ?_, ?_, ?_, ?_, ?_, ?_, ?_, ?_, trivial⟩
                all_goals (intro x0 W hC; obtain ⟨nB, n1, n2⟩ := HCX.out _ hC; obtain ⟨nb2, _⟩ := nB.at_ 2 _ rfl; obtain ⟨nb3, _⟩ := nB.at_ 3 _ rfl)
                all_goals first
                  | (refine e_no rfl ?_; rfl)
                  | (refine e_yes rfl ?_; intro b e hb K hK)
                all_goals first
                  | (refine opE_li rfl hb ?_; simp only [execOp, resolve, Oper.about, envB, lookB, lookV, nthV, List.map_toArray, List.map_cons, List.map_nil, Nat.reduceEqDiff, reduceIte, Nat.succ_ne_zero, Nat.zero_ne_one, Nat.one_ne_zero, Nat.reduceAdd, Nat.zero_add]; go_simp; exact hK _ hC)
                  | (refine opE_call rfl hb (fun _ => trivial) (fun h => (by cases h)) 48 #[.agg #[I o6, I o7], I (vb - at_)] ?_ ?_
                     · (simp only [execOp, resolve, Oper.about, envB, lookB, lookV, nthV, List.map_toArray, List.map_cons, List.map_nil, Nat.reduceEqDiff, reduceIte, Nat.succ_ne_zero, Nat.zero_ne_one, Nat.one_ne_zero, Nat.reduceAdd, Nat.zero_add])
                       go_simp
                     · refine callsIn_wide.2 ((H48v.out _).mono ?_)
                       rintro e w6 ⟨rfl, hB6⟩
                       exact ⟨_, rfl, hK _ (hC.trans (hB6.mono hC.size))⟩)
              · (intro W hC; have HC := Lib.hid hC; clear hC; simp only [putD, nthV, Act.put, List.setIfInBounds_toArray, List.set_cons_succ, List.set_cons_zero, Nat.zero_add, Nat.reduceAdd])
                have hCo := HC.out
                clear HC
                have hB2 := hBi.trans (hCo.mono (by have := hBi.size; omega))
                cases hb
                · have HSF : Hid (setN (expJ x f t j a (k + 1)) = setN (expJ x f t j a k)) := Lib.hid (by rw [HSk.out]; rfl)
                  have HFF : Hid (folK x t a (k + 1) = folK x t a k) := Lib.hid (by rw [HFk.out, Bool.or_false])
                  clear HSk HFk
                  go_wp2_with (fail)
                  go_roundw
                  case rel => first | exact ⟨k + 1, by omega, by go_num, by rw [HSF.out], by rw [HFF.out], hB2⟩ | ((repeat apply Exists.intro); refine ⟨?_, rfl⟩; exact ⟨k + 1, by omega, by go_num, by rw [HSF.out], by rw [HFF.out], hB2⟩)
                  case measure => first | (simp [intOf]; done) | (simp [intOf]; omega)
                · have HSF : Hid (setN (expJ x f t j a (k + 1)) = setN (expJ x f t j a k) ||| 2 ^ b) := Lib.hid (by rw [HSk.out, setN_one (show b < 64 by omega)]; rfl)
                  have HFF : Hid (folK x t a (k + 1) = true) := Lib.hid (by rw [HFk.out, Bool.or_true])
                  obtain ⟨hp1, hp2⟩ := pow_u (show b < 64 by omega)
                  have hor := orU (setN (expJ x f t j a k)) (2 ^ b) hlS hp2
                  rw [← HSF.out] at hor
                  have hwu := wrapU (2 ^ b) hp2
                  obtain ⟨sj1, hs1⟩ : ∃ s, setN (expJ x f t j a (k + 1)) = s := ⟨_, rfl⟩
                  rw [hs1] at HSF hor
                  have HS1 := Lib.hid hs1
                  clear hs1 HSk HFk
                  generalize setN (expJ x f t j a k) = sj at *
                  generalize folK x t a k = fk at *
                  generalize hpw : 2 ^ b = pw at *
                  clear hpw
                  have hi64 : (b : Int) < 64 := by omega
                  go_wp2_with (fail)
                  go_roundw
                  case rel => first | exact ⟨k + 1, by omega, by go_num, by rw [HS1.out], by rw [HFF.out], hB2⟩ | ((repeat apply Exists.intro); refine ⟨?_, rfl⟩; exact ⟨k + 1, by omega, by go_num, by rw [HS1.out], by rw [HFF.out], hB2⟩)
                  case measure => first | (simp [intOf]; done) | (simp [intOf]; omega)
            · obtain rfl : k = (own x t).length := by omega
              have HSE : Hid (setN (expK x f t (j + 1)) = setN (expJ x f t j a (own x t).length)) := Lib.hid HJEj.out.symm
              have HCZ : Hid (∀ W, Below wr.heap.size wr W → Box W T [I o4, I o5, I o6, I o7, .slice Ot (own x t).length ct] ∧ W.cell? ⟨P, 2, none⟩ = some (I en)) := Lib.hid fun W hW =>
                ⟨(HTr.out.call hBi).call hW, HENQ.out ▸ ((HRr.out.call hBi).call hW).en0⟩
              generalize setN (expJ x f t j a (own x t).length) = sj at *
              obtain ⟨fo, hfo⟩ : ∃ fo, folK x t a (own x t).length = fo := ⟨_, rfl⟩
              rw [hfo] at HRSj ⊢
              clear hfo HJEj
              have hwa : IntKind.i64.wrap (at_ + o7) = at_ + o7 := IntWalk.i64_in _ (by omega)
              cases fo
              · by_cases hrn : r < 0
                · have hrd : decide (r < 0) = true := decide_eq_true hrn
                  cases he : decide (at_ + o7 ≤ en)
                  · have HRF : Hid (optI (refK x f t (j + 1)) = r) := Lib.hid (by rw [HRSj.out, if_pos hrn, he, HR2.out hrn]; rfl)
                    clear HRSj
                    go_wp2_with (fail)
                    refine (wpIn_wide (n := 9)).1 ?_
                    refine wpIn_region_valsB [some 71, some 72, some 73, some 74, some 75, some 76, some 77, some 78, some 79, some 80, some 81, some 82, some 83, some 84, some 85, some 86, some 87, some 88, some 89, some 90]
                      (nthV [.bool false, .bool true, .bool true, I r, .bool true, .bool true, .bool true, I at_, .pointer (some ⟨T, 0, none⟩), .pointer (some ⟨T, 2, none⟩), .pointer (some ⟨T, 3, none⟩), I o7, I (at_ + o7), .pointer (some ⟨P, 0, none⟩), .pointer (some ⟨P, 0, none⟩), .pointer (some ⟨P, 0, none⟩), .pointer (some ⟨P, 2, none⟩), I en, .bool false, .bool false])
                      [(10, .bool false), (5, I r), (9, I at_), (6, .pointer (some ⟨T, 0, none⟩)), (0, .pointer (some ⟨P, 0, none⟩))]
                      (fun W => Below wr.heap.size wr W) rfl (by kernel_rfl) (fun _ => trivial) (by kernel_rfl) (by kernel_rfl) (by kernel_rfl) ⟨rfl, rfl, rfl, rfl, rfl, trivial⟩ (fun _ d _ _ _ h => by cases d <;> exact h) (by first | exact (Below.refl _ _).drew | exact (below_drewN (Below.refl _ _) _).drew) ?_ ?_
                    · refine ⟨?_, ?_, ?_, ?_, ?_, ?_, ?_, ?_, ?_, ?_, ?_, ?_, ?_, ?_, ?_, ?_, ?_, ?_, ?_, ?_, trivial⟩
                      all_goals (intro x0 W hC; obtain ⟨nB, n1⟩ := HCZ.out _ hC; obtain ⟨nb3, _⟩ := nB.at_ 3 _ rfl)
                      all_goals first
                        | (refine e_no rfl ?_; rfl)
                        | (refine e_yes rfl ?_; intro b e hb K hK)
                      all_goals first
                        | (refine opE_li rfl hb ?_; simp only [execOp, resolve, Oper.about, envB, lookB, lookV, nthV, List.map_toArray, List.map_cons, List.map_nil, Nat.reduceEqDiff, reduceIte, Nat.succ_ne_zero, Nat.zero_ne_one, Nat.one_ne_zero, Nat.reduceAdd, Nat.zero_add]; go_simp; exact hK _ hC)
                    · (intro W hC; have HC := Lib.hid hC; clear hC; simp only [putD, nthV, Act.put, List.setIfInBounds_toArray, List.set_cons_succ, List.set_cons_zero, Nat.zero_add, Nat.reduceAdd])
                      have hCo := HC.out
                      clear HC
                      have hB2 := hB.trans ((hBi.trans (hCo.mono (by have := hBi.size; omega))).mono (by omega))
                      go_wp2_with (fail)
                      go_roundw
                      case rel => first | exact ⟨j + 1, by omega, by go_num, by rw [HSE.out], by rw [HRF.out], hB2⟩ | ((repeat apply Exists.intro); refine ⟨?_, rfl⟩; exact ⟨j + 1, by omega, by go_num, by rw [HSE.out], by rw [HRF.out], hB2⟩)
                      case measure => first | (simp [intOf]; done) | (simp [intOf]; omega)
                  · have HRF : Hid (optI (refK x f t (j + 1)) = (a : Int)) := Lib.hid (by rw [HRSj.out, if_pos hrn, he]; rfl)
                    clear HRSj
                    go_wp2_with (fail)
                    refine (wpIn_wide (n := 9)).1 ?_
                    refine wpIn_region_valsB [some 71, some 72, some 73, some 74, some 75, some 76, some 77, some 78, some 79, some 80, some 81, some 82, some 83, some 84, some 85, some 86, some 87, some 88, some 89, some 90]
                      (nthV [.bool false, .bool true, .bool true, I r, .bool true, .bool true, .bool true, I at_, .pointer (some ⟨T, 0, none⟩), .pointer (some ⟨T, 2, none⟩), .pointer (some ⟨T, 3, none⟩), I o7, I (at_ + o7), .pointer (some ⟨P, 0, none⟩), .pointer (some ⟨P, 0, none⟩), .pointer (some ⟨P, 0, none⟩), .pointer (some ⟨P, 2, none⟩), I en, .bool true, .bool true])
                      [(10, .bool false), (5, I r), (9, I at_), (6, .pointer (some ⟨T, 0, none⟩)), (0, .pointer (some ⟨P, 0, none⟩))]
                      (fun W => Below wr.heap.size wr W) rfl (by kernel_rfl) (fun _ => trivial) (by kernel_rfl) (by kernel_rfl) (by kernel_rfl) ⟨rfl, rfl, rfl, rfl, rfl, trivial⟩ (fun _ d _ _ _ h => by cases d <;> exact h) (by first | exact (Below.refl _ _).drew | exact (below_drewN (Below.refl _ _) _).drew) ?_ ?_
                    · refine ⟨?_, ?_, ?_, ?_, ?_, ?_, ?_, ?_, ?_, ?_, ?_, ?_, ?_, ?_, ?_, ?_, ?_, ?_, ?_, ?_, trivial⟩
                      all_goals (intro x0 W hC; obtain ⟨nB, n1⟩ := HCZ.out _ hC; obtain ⟨nb3, _⟩ := nB.at_ 3 _ rfl)
                      all_goals first
                        | (refine e_no rfl ?_; rfl)
                        | (refine e_yes rfl ?_; intro b e hb K hK)
                      all_goals first
                        | (refine opE_li rfl hb ?_; simp only [execOp, resolve, Oper.about, envB, lookB, lookV, nthV, List.map_toArray, List.map_cons, List.map_nil, Nat.reduceEqDiff, reduceIte, Nat.succ_ne_zero, Nat.zero_ne_one, Nat.one_ne_zero, Nat.reduceAdd, Nat.zero_add]; go_simp; exact hK _ hC)
                    · (intro W hC; have HC := Lib.hid hC; clear hC; simp only [putD, nthV, Act.put, List.setIfInBounds_toArray, List.set_cons_succ, List.set_cons_zero, Nat.zero_add, Nat.reduceAdd])
                      have hCo := HC.out
                      clear HC
                      have hB2 := hB.trans ((hBi.trans (hCo.mono (by have := hBi.size; omega))).mono (by omega))
                      go_wp2_with (fail)
                      go_roundw
                      case rel => first | exact ⟨j + 1, by omega, by go_num, by rw [HSE.out], by rw [HRF.out], hB2⟩ | ((repeat apply Exists.intro); refine ⟨?_, rfl⟩; exact ⟨j + 1, by omega, by go_num, by rw [HSE.out], by rw [HRF.out], hB2⟩)
                      case measure => first | (simp [intOf]; done) | (simp [intOf]; omega)
                · have hrd : decide (r < 0) = false := decide_eq_false hrn
                  have HRF : Hid (optI (refK x f t (j + 1)) = r) := Lib.hid (by rw [HRSj.out, if_neg hrn])
                  clear HRSj
                  go_wp2_with (fail)
                  refine (wpIn_wide (n := 9)).1 ?_
                  refine wpIn_region_valsB [some 71, some 72, some 73, some 74, some 75, some 76, some 77, some 78, some 79, some 80, some 81, some 82, some 83, some 84, some 85, some 86, some 87, some 88, some 89, some 90]
                    (nthV [.bool false, .bool true, .bool true, I r, .bool false, .bool false, .bool false, undef, undef, undef, undef, undef, undef, undef, undef, undef, undef, undef, undef, .bool false])
                    [(10, .bool false), (5, I r), (9, I at_), (6, .pointer (some ⟨T, 0, none⟩)), (0, .pointer (some ⟨P, 0, none⟩))]
                    (fun W => Below wr.heap.size wr W) rfl (by kernel_rfl) (fun _ => trivial) (by kernel_rfl) (by kernel_rfl) (by kernel_rfl) ⟨rfl, rfl, rfl, rfl, rfl, trivial⟩ (fun _ d _ _ _ h => by cases d <;> exact h) (by first | exact (Below.refl _ _).drew | exact (below_drewN (Below.refl _ _) _).drew) ?_ ?_
                  · refine ⟨?_, ?_, ?_, ?_, ?_, ?_, ?_, ?_, ?_, ?_, ?_, ?_, ?_, ?_, ?_, ?_, ?_, ?_, ?_, ?_, trivial⟩
                    all_goals (intro x0 W hC; obtain ⟨nB, n1⟩ := HCZ.out _ hC; obtain ⟨nb3, _⟩ := nB.at_ 3 _ rfl)
                    all_goals first
                      | (refine e_no rfl ?_; rfl)
                      | (refine e_yes rfl ?_; intro b e hb K hK)
                    all_goals first
                      | (refine opE_li rfl hb ?_; simp only [execOp, resolve, Oper.about, envB, lookB, lookV, nthV, List.map_toArray, List.map_cons, List.map_nil, Nat.reduceEqDiff, reduceIte, Nat.succ_ne_zero, Nat.zero_ne_one, Nat.one_ne_zero, Nat.reduceAdd, Nat.zero_add]; go_simp; exact hK _ hC)
                  · (intro W hC; have HC := Lib.hid hC; clear hC; simp only [putD, nthV, Act.put, List.setIfInBounds_toArray, List.set_cons_succ, List.set_cons_zero, Nat.zero_add, Nat.reduceAdd])
                    have hCo := HC.out
                    clear HC
                    have hB2 := hB.trans ((hBi.trans (hCo.mono (by have := hBi.size; omega))).mono (by omega))
                    go_wp2_with (fail)
                    go_roundw
                    case rel => first | exact ⟨j + 1, by omega, by go_num, by rw [HSE.out], by rw [HRF.out], hB2⟩ | ((repeat apply Exists.intro); refine ⟨?_, rfl⟩; exact ⟨j + 1, by omega, by go_num, by rw [HSE.out], by rw [HRF.out], hB2⟩)
                    case measure => first | (simp [intOf]; done) | (simp [intOf]; omega)
              · have HRF : Hid (optI (refK x f t (j + 1)) = r) := Lib.hid (by
                  rw [HRSj.out]
                  by_cases hrn : r < 0
                  · rw [if_pos hrn, Bool.not_true, Bool.and_false, HR2.out hrn]; rfl
                  · rw [if_neg hrn])
                clear HRSj
                go_wp2_with (fail)
                refine (wpIn_wide (n := 9)).1 ?_
                refine wpIn_region_valsB [some 71, some 72, some 73, some 74, some 75, some 76, some 77, some 78, some 79, some 80, some 81, some 82, some 83, some 84, some 85, some 86, some 87, some 88, some 89, some 90]
                  (nthV [.bool true, .bool false, .bool false, undef, undef, .bool false, .bool false, undef, undef, undef, undef, undef, undef, undef, undef, undef, undef, undef, undef, .bool false])
                  [(10, .bool true), (5, I r), (9, I at_), (6, .pointer (some ⟨T, 0, none⟩)), (0, .pointer (some ⟨P, 0, none⟩))]
                  (fun W => Below wr.heap.size wr W) rfl (by kernel_rfl) (fun _ => trivial) (by kernel_rfl) (by kernel_rfl) (by kernel_rfl) ⟨rfl, rfl, rfl, rfl, rfl, trivial⟩ (fun _ d _ _ _ h => by cases d <;> exact h) (by first | exact (Below.refl _ _).drew | exact (below_drewN (Below.refl _ _) _).drew) ?_ ?_
                · refine ⟨?_, ?_, ?_, ?_, ?_, ?_, ?_, ?_, ?_, ?_, ?_, ?_, ?_, ?_, ?_, ?_, ?_, ?_, ?_, ?_, trivial⟩
                  all_goals (intro x0 W hC; obtain ⟨nB, n1⟩ := HCZ.out _ hC; obtain ⟨nb3, _⟩ := nB.at_ 3 _ rfl)
                  all_goals first
                    | (refine e_no rfl ?_; rfl)
                    | (refine e_yes rfl ?_; intro b e hb K hK)
                  all_goals first
                    | (refine opE_li rfl hb ?_; simp only [execOp, resolve, Oper.about, envB, lookB, lookV, nthV, List.map_toArray, List.map_cons, List.map_nil, Nat.reduceEqDiff, reduceIte, Nat.succ_ne_zero, Nat.zero_ne_one, Nat.one_ne_zero, Nat.reduceAdd, Nat.zero_add]; go_simp; exact hK _ hC)
                · (intro W hC; have HC := Lib.hid hC; clear hC; simp only [putD, nthV, Act.put, List.setIfInBounds_toArray, List.set_cons_succ, List.set_cons_zero, Nat.zero_add, Nat.reduceAdd])
                  have hCo := HC.out
                  clear HC
                  have hB2 := hB.trans ((hBi.trans (hCo.mono (by have := hBi.size; omega))).mono (by omega))
                  go_wp2_with (fail)
                  go_roundw
                  case rel => first | exact ⟨j + 1, by omega, by go_num, by rw [HSE.out], by rw [HRF.out], hB2⟩ | ((repeat apply Exists.intro); refine ⟨?_, rfl⟩; exact ⟨j + 1, by omega, by go_num, by rw [HSE.out], by rw [HRF.out], hB2⟩)
                  case measure => first | (simp [intOf]; done) | (simp [intOf]; omega)
        · obtain rfl : j = (own x f).length := by omega
          go_wp2_with (fail)
          refine bodyPost_ret (v := .tuple #[U64 (setN (expK x f t (own x f).length)), I (optI (refK x f t (own x f).length))]) (by simp [results, Try.results31, go_sem]) rfl ⟨rfl, hBw⟩
end Go.Proofs.Ytijgfdncocjncaa
