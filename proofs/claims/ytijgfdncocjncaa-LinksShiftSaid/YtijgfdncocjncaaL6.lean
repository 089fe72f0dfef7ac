/- Links, plain: earlier or later, and the springs turned. -/
import Derived.Test.YtijgfdncocjncaaL5
namespace Go.Proofs.Ytijgfdncocjncaa
set_option linter.unusedVariables false
set_option linter.unusedSimpArgs false
open Go Go.RowKit

/-! Later by L. -/
def shiftW (x : Wat) (L : Int) : Wat := ⟨x.hb, x.er.map fun p => (p.1, p.2 + L), x.en + L⟩
section
variable {x : Wat} {L : Int}
theorem shiftW_m : (shiftW x L).m = x.m := by simp [shiftW, Wat.m]
theorem shiftW_sp (i : Nat) : (shiftW x L).sp i = x.sp i := by
  unfold Wat.sp shiftW
  simp only [List.getD_eq_getElem?_getD, List.getElem?_map]
  cases x.er[i]? <;> simp
theorem shiftW_tm {i : Nat} (h : i < x.m) : (shiftW x L).tm i = x.tm i + L := by
  unfold Wat.tm shiftW
  have h' : i < x.er.length := h
  simp only [List.getD_eq_getElem?_getD, List.getElem?_map, List.getElem?_eq_getElem h']
  simp
theorem shiftW_ok (hx : WatOk x) (h0 : 0 ≤ L) (h1 : x.en + L ≤ 1048576) : WatOk (shiftW x L) := by
  have hen := hx.en
  have e1 : (shiftW x L).en = x.en + L := rfl
  refine ⟨hx.n6, by rw [shiftW_m]; exact hx.m64, by rw [e1]; omega, fun k hk => ⟨(hx.hab k hk).own, (hx.hab k hk).del⟩, fun i hi => ?_⟩
  rw [shiftW_m] at hi
  have h := hx.eru i hi
  refine ⟨by rw [shiftW_sp]; exact h.sp, ?_, fun hp => ?_, fun k hk => ?_⟩
  · rw [shiftW_tm hi, e1]
    have := h.tm
    omega
  · rw [shiftW_tm hi, shiftW_tm (by omega)]
    have := h.mono hp
    omega
  · rw [shiftW_sp, shiftW_sp, shiftW_tm hi, shiftW_tm (by omega)]
    intro e
    exact h.dist k hk ⟨e.1, by omega⟩
theorem shiftW_fol {f t b a : Nat} (ha : a < x.m) (hb : b < x.m) : folB (shiftW x L) f t b a = folB x f t b a := by
  unfold folB
  rw [shiftW_sp, shiftW_sp, shiftW_tm ha, shiftW_tm hb, show x.tm b + L - (x.tm a + L) = x.tm b - x.tm a by omega]
  rfl
theorem any_congr_lt {p q : Nat → Bool} {n : Nat} (h : ∀ i, i < n → p i = q i) : (List.range n).any p = (List.range n).any q := by
  induction n with
  | zero => rfl
  | succ n ih =>
    rw [List.range_succ, List.any_append, List.any_append, ih fun i hi => h i (by omega)]
    simp [h n (by omega)]
theorem find_congr_lt {p q : Nat → Bool} {n : Nat} (h : ∀ i, i < n → p i = q i) : (List.range n).find? p = (List.range n).find? q := by
  induction n with
  | zero => rfl
  | succ n ih =>
    rw [List.range_succ, List.find?_append, List.find?_append, ih fun i hi => h i (by omega)]
    simp [List.find?_cons, h n (by omega)]
theorem shiftW_ref (f t : Nat) : ref (shiftW x L) f t = ref x f t := by
  unfold ref
  rw [shiftW_m]
  refine find_congr_lt fun a ha => ?_
  unfold refB
  rw [shiftW_sp, shiftW_tm ha, shiftW_m, any_congr_lt fun k hk => shiftW_fol ha hk]
  have e1 : (shiftW x L).en = x.en + L := rfl
  have e2 : (shiftW x L).dh t = x.dh t := rfl
  rw [e1, e2, show decide (x.tm a + L + x.dh t ≤ x.en + L) = decide (x.tm a + x.dh t ≤ x.en) from decide_eq_decide.2 (by omega)]
theorem shiftW_exp {f t b : Nat} (hb : b < x.m) : expB (shiftW x L) f t b = expB x f t b := by
  unfold expB
  rw [shiftW_m]
  exact any_congr_lt fun a ha => shiftW_fol ha hb
theorem shiftW_srcs (t : Nat) : srcs (shiftW x L) t = srcs x t := by
  unfold srcs srcTo
  have : (fun f => f != t && (ref (shiftW x L) f t).isNone) = fun f => f != t && (ref x f t).isNone := funext fun f => by rw [shiftW_ref]
  rw [this]
  rfl
theorem shiftW_prev (s : Int) : ∀ i, prevTo (shiftW x L) s i = prevTo x s i
  | 0 => rfl
  | i + 1 => by
    unfold prevTo
    rw [shiftW_prev s i, shiftW_sp]
theorem shiftW_need {i : Nat} (hi : i < x.m) : needB (shiftW x L) i = needB x i := by
  unfold needB
  rw [shiftW_sp, shiftW_prev]
  have h := prevTo_lt x (x.sp i) i
  cases h0 : decide (0 ≤ prevTo x (x.sp i) i) with
  | false => simp
  | true =>
    have h1 := of_decide_eq_true h0
    rw [shiftW_tm hi, shiftW_tm (by omega), show x.tm i + L - (x.tm (prevTo x (x.sp i) i).toNat + L) = x.tm i - x.tm (prevTo x (x.sp i) i).toNat by omega]
    rfl
theorem shiftW_en (t : Nat) (l : List Nat) : enB (shiftW x L) t l = enB x t l := by
  rw [Bool.eq_iff_iff, enB_iff, enB_iff, shiftW_m]
  constructor
  · intro h i hi hs hn
    obtain ⟨f, hf, he⟩ := h i hi (by rw [shiftW_sp]; exact hs) (by rw [shiftW_need hi]; exact hn)
    exact ⟨f, hf, by rwa [shiftW_exp hi] at he⟩
  · intro h i hi hs hn
    obtain ⟨f, hf, he⟩ := h i hi (by rwa [shiftW_sp] at hs) (by rwa [shiftW_need hi] at hn)
    exact ⟨f, hf, by rw [shiftW_exp hi]; exact he⟩
theorem shiftW_fewT (t : Nat) : fewT (shiftW x L) t = fewT x t := by
  unfold fewT
  rw [shiftW_srcs, show enB (shiftW x L) t = enB x t from funext fun l => shiftW_en t l]
theorem shiftW_fewTo : ∀ k, fewTo (shiftW x L) k = fewTo x k
  | 0 => rfl
  | k + 1 => by
    unfold fewTo
    rw [shiftW_fewTo k, shiftW_fewT]
theorem shiftW_nedT (t : Nat) : nedT (shiftW x L) t = nedT x t := by
  unfold nedT
  rw [shiftW_srcs, show enB (shiftW x L) t = enB x t from funext fun l => shiftW_en t l]
theorem shiftW_nedTo : ∀ k, nedTo (shiftW x L) k = nedTo x k
  | 0 => rfl
  | k + 1 => by
    unfold nedTo
    rw [shiftW_nedTo k, shiftW_nedT, shiftW_en, shiftW_srcs]
theorem shiftW_all (hx : WatOk x) (h0 : 0 ≤ L) (h1 : x.en + L ≤ 1048576) (f t : Int) : fewR (shiftW x L) = fewR x ∧ nedR (shiftW x L) = nedR x ∧ hldR (shiftW x L) f t = hldR x f t := by
  have e1 := watB_iff.2 hx
  have e2 := watB_iff.2 (shiftW_ok hx h0 h1)
  have en : (shiftW x L).n = x.n := rfl
  refine ⟨?_, ?_, ?_⟩
  · unfold fewR
    rw [e1, e2, en, shiftW_fewTo]
  · unfold nedR
    rw [e1, e2, en, shiftW_nedTo]
  · unfold hldR
    rw [e1, e2, en, shiftW_ref]
end
/-! The springs turned. -/
def sg (n r k : Nat) : Nat := (k + r) % n
structure IsTurn (x y : Wat) (r : Nat) : Prop where
  n : y.n = x.n
  hb : ∀ k, k < x.n → y.hb.getD (sg x.n r k) (0, 0, 0, 0) = x.hb.getD k (0, 0, 0, 0)
  m : y.m = x.m
  sp : ∀ (i k : Nat), i < x.m → x.sp i = (k : Int) → k < x.n → y.sp i = (sg x.n r k : Nat)
  tm : ∀ i, i < x.m → y.tm i = x.tm i
  en : y.en = x.en
theorem sg_lt {n r k : Nat} (h : 0 < n) : sg n r k < n := Nat.mod_lt _ h
theorem sg_inj {n r j k : Nat} (hj : j < n) (hk : k < n) (h : sg n r j = sg n r k) : j = k := by
  unfold sg at h
  have h1 : (j + r) % n = (k + r) % n := h
  rw [Nat.add_mod j, Nat.add_mod k, Nat.mod_eq_of_lt hj, Nat.mod_eq_of_lt hk] at h1
  have hr := Nat.mod_lt r (show 0 < n by omega)
  generalize r % n = q at *
  rcases Nat.lt_or_ge (j + q) n with a | a <;> rcases Nat.lt_or_ge (k + q) n with b | b
  · rw [Nat.mod_eq_of_lt a, Nat.mod_eq_of_lt b] at h1; omega
  · rw [Nat.mod_eq_of_lt a, Nat.mod_eq_sub_mod b, Nat.mod_eq_of_lt (by omega)] at h1; omega
  · rw [Nat.mod_eq_of_lt b, Nat.mod_eq_sub_mod a, Nat.mod_eq_of_lt (by omega)] at h1; omega
  · rw [Nat.mod_eq_sub_mod a, Nat.mod_eq_sub_mod b, Nat.mod_eq_of_lt (by omega), Nat.mod_eq_of_lt (by omega)] at h1; omega
theorem sg_back {n r k : Nat} (hk : k < n) : sg n (n - r % n) (sg n r k) = k := by
  unfold sg
  have hr := Nat.mod_lt r (show 0 < n by omega)
  rw [Nat.add_mod k r, Nat.mod_eq_of_lt hk]
  generalize r % n = q at *
  rcases Nat.lt_or_ge (k + q) n with a | a
  · rw [Nat.mod_eq_of_lt a, show k + q + (n - q) = k + n by omega, Nat.add_mod_right, Nat.mod_eq_of_lt hk]
  · rw [Nat.mod_eq_sub_mod a, Nat.mod_eq_of_lt (show k + q - n < n by omega), show k + q - n + (n - q) = k by omega, Nat.mod_eq_of_lt hk]
theorem sg_back2 {n r k : Nat} (hk : k < n) : sg n r (sg n (n - r % n) k) = k := by
  unfold sg
  have hr := Nat.mod_lt r (show 0 < n by omega)
  rw [Nat.add_mod _ r, Nat.mod_mod]
  generalize r % n = q at *
  rcases Nat.lt_or_ge (k + (n - q)) n with a | a
  · rw [Nat.mod_eq_of_lt a, show k + (n - q) + q = k + n by omega, Nat.add_mod_right, Nat.mod_eq_of_lt hk]
  · rw [Nat.mod_eq_sub_mod a]
    rcases Nat.lt_or_ge (k + (n - q) - n) n with b | b
    · rw [Nat.mod_eq_of_lt b, show k + (n - q) - n + q = k by omega, Nat.mod_eq_of_lt hk]
    · omega
section
variable {x y : Wat} {r : Nat}
theorem IsTurn.back (h : IsTurn x y r) (hx : WatOk x) (hn : 0 < x.n) : IsTurn y x (x.n - r % x.n) := by
  refine ⟨h.n.symm, fun k hk => ?_, h.m.symm, fun i k hi hs hk => ?_, fun i hi => (h.tm i (by rw [h.m] at hi; exact hi)).symm, h.en.symm⟩
  · rw [h.n] at hk ⊢
    have e := h.hb (sg x.n (x.n - r % x.n) k) (sg_lt hn)
    rw [sg_back2 hk] at e
    exact e.symm
  · rw [h.m] at hi
    rw [h.n] at hk ⊢
    obtain ⟨q, hq, hqn⟩ := sp_nat hx hi
    have e := h.sp i q hi hq hqn
    rw [hs] at e
    have e2 : k = sg x.n r q := by omega
    rw [e2, sg_back hqn, hq]
theorem IsTurn.dl (h : IsTurn x y r) {k : Nat} (hk : k < x.n) : y.dl (sg x.n r k) = x.dl k := by unfold Wat.dl; rw [h.hb k hk]
theorem IsTurn.dh (h : IsTurn x y r) {k : Nat} (hk : k < x.n) : y.dh (sg x.n r k) = x.dh k := by unfold Wat.dh; rw [h.hb k hk]
theorem IsTurn.ol (h : IsTurn x y r) {k : Nat} (hk : k < x.n) : y.ol (sg x.n r k) = x.ol k := by unfold Wat.ol; rw [h.hb k hk]
theorem IsTurn.oh (h : IsTurn x y r) {k : Nat} (hk : k < x.n) : y.oh (sg x.n r k) = x.oh k := by unfold Wat.oh; rw [h.hb k hk]
theorem IsTurn.sp_iff (h : IsTurn x y r) (hx : WatOk x) {i k : Nat} (hi : i < x.m) (hk : k < x.n) : y.sp i = (sg x.n r k : Nat) ↔ x.sp i = (k : Int) := by
  obtain ⟨q, hq, hqn⟩ := sp_nat hx hi
  rw [h.sp i q hi hq hqn, hq]
  constructor
  · intro e
    have : sg x.n r q = sg x.n r k := by omega
    rw [sg_inj hqn hk this]
  · intro e
    have : q = k := by omega
    rw [this]
theorem IsTurn.ok (h : IsTurn x y r) (hx : WatOk x) (hn : 0 < x.n) : WatOk y := by
  have hback := h.back hx hn
  refine ⟨by rw [h.n]; exact hx.n6, by rw [h.m]; exact hx.m64, by rw [h.en]; exact hx.en, fun k hk => ?_, fun i hi => ?_⟩
  · rw [h.n] at hk
    have e : k = sg x.n r (sg x.n (x.n - r % x.n) k) := (sg_back2 hk).symm
    have hk2 := sg_lt (r := x.n - r % x.n) (k := k) hn
    rw [e]
    have h1 := hx.hab _ hk2
    exact ⟨by rw [h.ol hk2, h.oh hk2]; exact h1.own, by rw [h.dl hk2, h.dh hk2]; exact h1.del⟩
  · rw [h.m] at hi
    have h1 := hx.eru i hi
    obtain ⟨q, hq, hqn⟩ := sp_nat hx hi
    refine ⟨?_, by rw [h.tm i hi, h.en]; exact h1.tm, fun hp => by rw [h.tm i hi, h.tm (i - 1) (by omega)]; exact h1.mono hp, fun k hk => ?_⟩
    · rw [h.sp i q hi hq hqn, h.n]
      have := sg_lt (r := r) (k := q) hn
      omega
    · rw [h.tm i hi, h.tm k (by omega), h.sp i q hi hq hqn, h.sp_iff hx (by omega) hqn, ← hq]
      exact h1.dist k hk
theorem IsTurn.fol (h : IsTurn x y r) (hx : WatOk x) {f t b a : Nat} (hf : f < x.n) (ht : t < x.n) (ha : a < x.m) (hb : b < x.m) : folB y (sg x.n r f) (sg x.n r t) b a = folB x f t b a := by
  unfold folB
  rw [h.tm a ha, h.tm b hb, h.dl ht, h.dh ht]
  have e1 : (y.sp a == ((sg x.n r f : Nat) : Int)) = (x.sp a == (f : Int)) := by
    rw [Bool.eq_iff_iff, beq_iff_eq, beq_iff_eq]
    exact h.sp_iff hx ha hf
  have e2 : (y.sp b == ((sg x.n r t : Nat) : Int)) = (x.sp b == (t : Int)) := by
    rw [Bool.eq_iff_iff, beq_iff_eq, beq_iff_eq]
    exact h.sp_iff hx hb ht
  rw [e1, e2]
theorem IsTurn.ref_ (h : IsTurn x y r) (hx : WatOk x) {f t : Nat} (hf : f < x.n) (ht : t < x.n) : ref y (sg x.n r f) (sg x.n r t) = ref x f t := by
  unfold ref
  rw [h.m]
  refine find_congr_lt fun a ha => ?_
  unfold refB
  rw [h.tm a ha, h.m, any_congr_lt fun k hk => h.fol hx hf ht ha hk, h.dh ht, h.en]
  have e1 : (y.sp a == ((sg x.n r f : Nat) : Int)) = (x.sp a == (f : Int)) := by
    rw [Bool.eq_iff_iff, beq_iff_eq, beq_iff_eq]
    exact h.sp_iff hx ha hf
  rw [e1]
theorem IsTurn.exp (h : IsTurn x y r) (hx : WatOk x) {f t b : Nat} (hf : f < x.n) (ht : t < x.n) (hb : b < x.m) : expB y (sg x.n r f) (sg x.n r t) b = expB x f t b := by
  unfold expB
  rw [h.m]
  exact any_congr_lt fun a ha => h.fol hx hf ht ha hb
theorem IsTurn.prev (h : IsTurn x y r) (hx : WatOk x) {k : Nat} (hk : k < x.n) : ∀ i, i ≤ x.m → prevTo y (sg x.n r k : Nat) i = prevTo x (k : Int) i
  | 0, _ => rfl
  | i + 1, hi => by
    unfold prevTo
    rw [h.prev hx hk i (by omega)]
    by_cases e : x.sp i = (k : Int)
    · rw [if_pos e, if_pos ((h.sp_iff hx (by omega) hk).2 e)]
    · rw [if_neg e, if_neg fun e2 => e ((h.sp_iff hx (by omega) hk).1 e2)]
theorem IsTurn.need (h : IsTurn x y r) (hx : WatOk x) {i : Nat} (hi : i < x.m) : needB y i = needB x i := by
  obtain ⟨q, hq, hqn⟩ := sp_nat hx hi
  unfold needB
  rw [h.sp i q hi hq hqn, hq, h.prev hx hqn i (by omega), Int.toNat_natCast, Int.toNat_natCast, h.ol hqn, h.oh hqn]
  have hp := prevTo_lt x (q : Int) i
  cases h0 : decide (0 ≤ prevTo x (q : Int) i) with
  | false => simp
  | true =>
    have h1 := of_decide_eq_true h0
    rw [h.tm i hi, h.tm _ (by omega)]
def sg2 (n r : Nat) (p : Int × Int) : Int × Int := (((sg n r p.1.toNat : Nat) : Int), ((sg n r p.2.toNat : Nat) : Int))
theorem IsTurn.lnk (h : IsTurn x y r) {S : List (Int × Int)} (hS : LnkOk x S) (hn : 0 < x.n) : LnkOk y (S.map (sg2 x.n r)) := fun p hp => by
  obtain ⟨q, hq, rfl⟩ := List.mem_map.1 hp
  obtain ⟨f, t, rfl, hf, ht, hne⟩ := hS q hq
  refine ⟨sg x.n r f, sg x.n r t, rfl, by rw [h.n]; exact sg_lt hn, by rw [h.n]; exact sg_lt hn, fun e => hne (sg_inj hf ht e)⟩
theorem IsTurn.expl (h : IsTurn x y r) (hx : WatOk x) {S : List (Int × Int)} (hS : LnkOk x S) (he : explL x S = true) : explL y (S.map (sg2 x.n r)) = true := by
  obtain ⟨h1, h2⟩ := explL_iff.1 he
  refine explL_iff.2 ⟨fun p hp => ?_, fun i hi hn => ?_⟩
  · obtain ⟨q, hq, rfl⟩ := List.mem_map.1 hp
    have h3 := h1 q hq
    obtain ⟨f, t, rfl, hf, ht, hne⟩ := hS q hq
    have e := h.ref_ hx hf ht
    simp only [Int.toNat_natCast] at h3
    unfold sg2
    simp only [Int.toNat_natCast]
    rw [e, h3]
  · rw [h.m] at hi
    rw [h.need hx hi] at hn
    obtain ⟨q, hq, h3⟩ := h2 i hi hn
    refine ⟨sg2 x.n r q, List.mem_map.2 ⟨q, hq, rfl⟩, ?_⟩
    obtain ⟨f, t, rfl, hf, ht, hne⟩ := hS q hq
    simp only [Int.toNat_natCast] at h3
    unfold sg2
    simp only [Int.toNat_natCast]
    rw [h.exp hx hf ht hi]
    exact h3
theorem sg2_back {n r : Nat} {p : Int × Int} {f t : Nat} (hp : p = ((f : Int), (t : Int))) (hf : f < n) (ht : t < n) : sg2 n (n - r % n) (sg2 n r p) = p := by
  subst hp
  unfold sg2
  simp only [Int.toNat_natCast]
  rw [sg_back hf, sg_back ht]
theorem IsTurn.few_le (h : IsTurn x y r) (hx : WatOk x) (hn : 0 < x.n) {o : List (Int × Int)} (ho : fewTo x x.n = some o) : ∃ o2, fewTo y y.n = some o2 ∧ o2.length ≤ o.length := by
  have he := h.expl hx (few_ok ho) (few_expl hx ho)
  have hl := h.lnk (few_ok ho) hn
  cases h2 : fewTo y y.n with
  | none => rw [few_not hl h2] at he; cases he
  | some o2 =>
    refine ⟨o2, rfl, ?_⟩
    have := Go.Proofs.Ytijgfdncocjncaa.few_le hl he h2
    rwa [List.length_map] at this
/-- A link is needed if each set that explains has it. -/
theorem ned_iff {o : List (Int × Int)} (hx : WatOk x) (ho : nedTo x x.n = some o) {p : Int × Int} : p ∈ o ↔ ∀ S, LnkOk x S → explL x S = true → p ∈ S := by
  constructor
  · exact fun hp S hS he => ned_in hS he ho p hp
  · intro h
    have hen : ∀ t, t < x.n → enB x t (srcs x t) = true := fun t ht => by
      cases he : enB x t (srcs x t) with
      | true => rfl
      | false =>
        have := nedTo_noneI.2 ⟨t, ht, he⟩
        rw [ho] at this
        cases this
    have hall : LnkOk x (lnkTo (srcs x) x.n) := srcs_lnk fun t ht f hf => hf
    have hS : LnkOk x ((lnkTo (srcs x) x.n).filter (· != p)) := fun q hq => hall q (List.mem_filter.1 hq).1
    have hno : explL x ((lnkTo (srcs x) x.n).filter (· != p)) = false := by
      cases he : explL x ((lnkTo (srcs x) x.n).filter (· != p)) with
      | false => rfl
      | true =>
        have := (List.mem_filter.1 (h _ hS he)).2
        simp at this
    have hex : ∃ i, i < x.m ∧ needB x i = true ∧ ∀ q, q ∈ (lnkTo (srcs x) x.n).filter (· != p) → expB x q.1.toNat q.2.toNat i = false := by
      refine Classical.byContradiction fun hc => ?_
      have : explL x ((lnkTo (srcs x) x.n).filter (· != p)) = true := explL_iff.2 ⟨fun q hq => by
        obtain ⟨f, t, ht, hf, rfl⟩ := mem_lnkTo.1 (List.mem_filter.1 hq).1
        simp only [Int.toNat_natCast]
        exact (mem_srcs.1 hf).2.2, fun i hi hn => Classical.byContradiction fun hc2 => hc ⟨i, hi, hn, fun q hq => by
          cases he : expB x q.1.toNat q.2.toNat i with
          | false => rfl
          | true => exact absurd ⟨q, hq, he⟩ hc2⟩⟩
      rw [hno] at this
      cases this
    obtain ⟨i, hi, hn, hq⟩ := hex
    obtain ⟨t, ht, htn⟩ := sp_nat hx hi
    obtain ⟨f, hf, he⟩ := enB_iff.1 (hen t htn) i hi ht hn
    have hp : p = ((f : Int), (t : Int)) := by
      refine Classical.byContradiction fun hne => ?_
      have hm : ((f : Int), (t : Int)) ∈ (lnkTo (srcs x) x.n).filter (· != p) := List.mem_filter.2 ⟨mem_lnkTo.2 ⟨f, t, htn, hf, rfl⟩, by simpa using fun e => hne e.symm⟩
      have := hq _ hm
      simp only [Int.toNat_natCast] at this
      rw [he] at this
      cases this
    rw [nedTo_some ho]
    refine mem_lnkTo.2 ⟨f, t, htn, ?_, hp⟩
    unfold nedT
    refine List.mem_filter.2 ⟨hf, ?_⟩
    cases h3 : enB x t ((srcs x t).filter (· != f)) with
    | false => rfl
    | true =>
      obtain ⟨g, hg, hge⟩ := enB_iff.1 h3 i hi ht hn
      obtain ⟨hg1, hg2⟩ := List.mem_filter.1 hg
      have hm : ((g : Int), (t : Int)) ∈ (lnkTo (srcs x) x.n).filter (· != p) := List.mem_filter.2 ⟨mem_lnkTo.2 ⟨g, t, htn, hg1, rfl⟩, by
        rw [hp]
        have : g ≠ f := by simpa using hg2
        simp
        omega⟩
      have := hq _ hm
      simp only [Int.toNat_natCast] at this
      rw [hge] at this
      cases this
theorem IsTurn.ned_mem (h : IsTurn x y r) (hx : WatOk x) (hn : 0 < x.n) {o o2 : List (Int × Int)} (ho : nedTo x x.n = some o) (ho2 : nedTo y y.n = some o2) {p : Int × Int} (hp : p ∈ o) : sg2 x.n r p ∈ o2 := by
  have hy := h.ok hx hn
  have hb := h.back hx hn
  refine (ned_iff hy ho2).2 fun S hS he => ?_
  have e1 := hb.expl hy hS he
  have e2 := hb.lnk hS (by rw [h.n]; exact hn)
  rw [h.n] at e1 e2
  have h3 := (ned_iff hx ho).1 hp _ e2 e1
  obtain ⟨q, hq, hqe⟩ := List.mem_map.1 h3
  obtain ⟨f, t, rfl, hf, ht, hne⟩ := hS q hq
  rw [h.n] at hf ht
  rw [← hqe]
  have : sg2 x.n r (sg2 x.n (x.n - r % x.n) ((f : Int), (t : Int))) = ((f : Int), (t : Int)) := by
    unfold sg2
    simp only [Int.toNat_natCast]
    rw [sg_back2 hf, sg_back2 ht]
  rw [this]
  exact hq
theorem IsTurn.ned_le (h : IsTurn x y r) (hx : WatOk x) (hn : 0 < x.n) {o o2 : List (Int × Int)} (ho : nedTo x x.n = some o) (ho2 : nedTo y y.n = some o2) : o.length ≤ o2.length := by
  have h1 : (o.map (sg2 x.n r)).length ≤ o2.length := by
    refine len_of_sub ?_ fun p hp => ?_
    · rw [List.pairwise_map]
      refine List.pairwise_iff_getElem.2 fun i j hi hj hij e => ?_
      have hab := List.pairwise_iff_getElem.1 (ned_sorted ho) i j hi hj hij
      have ha := List.getElem_mem hi
      have hb := List.getElem_mem hj
      generalize o[i] = a at *
      generalize o[j] = b at *
      obtain ⟨f, t, ea, hf, ht, _⟩ := ned_ok ho a ha
      obtain ⟨f2, t2, eb, hf2, ht2, _⟩ := ned_ok ho b hb
      have e1 := sg2_back (r := r) ea hf ht
      have e2 := sg2_back (r := r) eb hf2 ht2
      rw [e, e2] at e1
      exact lnkLt_ne hab e1.symm
    · obtain ⟨q, hq, rfl⟩ := List.mem_map.1 hp
      exact h.ned_mem hx hn ho ho2 hq
  rwa [List.length_map] at h1
/-- What the laws ask of turned springs. -/
theorem IsTurn.all (h : IsTurn x y r) (hx : WatOk x) (hn : 0 < x.n) : (fewR y).2 = (fewR x).2 ∧ (nedR y).2 = (nedR x).2 ∧ (fewR y).1.length = (fewR x).1.length ∧ (nedR y).1.length = (nedR x).1.length ∧ ∀ p, p ∈ (nedR x).1 → sg2 x.n r p ∈ (nedR y).1 := by
  have hy := h.ok hx hn
  have hb := h.back hx hn
  have hn2 : 0 < y.n := by rw [h.n]; exact hn
  have e1 := watB_iff.2 hx
  have e2 := watB_iff.2 hy
  have F : ∀ {x : Wat}, watB x = true → fewR x = (match fewTo x x.n with | some o => (o, 0) | none => ([], 4)) := fun hw => by unfold fewR; rw [hw]; rfl
  have N : ∀ {x : Wat}, watB x = true → nedR x = (match nedTo x x.n with | some o => (o, 0) | none => ([], 4)) := fun hw => by unfold nedR; rw [hw]; rfl
  rw [F e1, F e2, N e1, N e2]
  cases ho : fewTo x x.n with
  | none =>
    have h2 : fewTo y y.n = none := by
      cases h3 : fewTo y y.n with
      | none => rfl
      | some o2 =>
        obtain ⟨o3, h4, _⟩ := hb.few_le hy hn2 h3
        rw [ho] at h4
        cases h4
    rw [h2, few_ned_none.1 ho, few_ned_none.1 h2]
    exact ⟨rfl, rfl, rfl, rfl, fun p hp => by cases hp⟩
  | some o =>
    obtain ⟨o2, h2, h3⟩ := h.few_le hx hn ho
    obtain ⟨o3, h4, h5⟩ := hb.few_le hy hn2 h2
    rw [ho] at h4
    cases h4
    cases hr : nedTo x x.n with
    | none => rw [few_ned_none.2 hr] at ho; cases ho
    | some q =>
      cases hr2 : nedTo y y.n with
      | none => rw [few_ned_none.2 hr2] at h2; cases h2
      | some q2 =>
        rw [h2]
        exact ⟨rfl, rfl, Nat.le_antisymm h3 h5, Nat.le_antisymm (hb.ned_le hy hn2 hr2 hr) (h.ned_le hx hn hr hr2), fun p hp => h.ned_mem hx hn hr hr2 hp⟩
end
end Go.Proofs.Ytijgfdncocjncaa
