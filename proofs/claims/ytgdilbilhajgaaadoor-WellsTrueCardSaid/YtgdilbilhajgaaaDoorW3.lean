/- flows: what its two walks leave (plain). -/
import Derived.Test.YtgdilbilhajgaaaDoorW2
import Derived.Test.YtgdilbilhajgaaaDoorE10
namespace Go.Proofs.YtgdilbilhajgaaaDoor
set_option linter.unusedVariables false
set_option linter.unusedSimpArgs false
open Go Go.RowKit

def sF (sl : List (Int × Int)) : Nat → Int × Int := fun k => sl.getD k (0, 0)
theorem sF_set {sl : List (Int × Int)} {i : Nat} (h : i < sl.length) (v : Int × Int) (k : Nat) : sF (sl.set i v) k = if k = i then v else sF sl k := by
  unfold sF
  by_cases e : k = i
  · subst e; simp [List.getD, h]
  · simp [List.getD, e, List.getElem?_set, Ne.symm e]
theorem wrap64_small {n : Int} (h : -1000000 ≤ n ∧ n ≤ 1000000) : wrap64 n = n := IntWalk.wrap64_in n ⟨by omega, by omega⟩
theorem plus_fold : ∀ (xs : List (Int × Int)) (a : Int × Int), (∀ x ∈ xs, (0 ≤ x.1 ∧ x.1 ≤ 1600) ∧ (0 ≤ x.2 ∧ x.2 ≤ 1600)) → 0 ≤ a.1 → 0 ≤ a.2 → a.1 + 1600 * xs.length ≤ 100000 → a.2 + 1600 * xs.length ≤ 100000 →
    xs.foldl plusF a = (a.1 + (xs.map (·.1)).sum, a.2 + (xs.map (·.2)).sum)
  | [], a, _, _, _, _, _ => by simp
  | x :: xs, a, h, h1, h2, h3, h4 => by
    obtain ⟨⟨b1, b2⟩, b3, b4⟩ := h x (by simp)
    simp only [List.length_cons] at h3 h4
    have e : plusF a x = (a.1 + x.1, a.2 + x.2) := by
      unfold plusF
      rw [wrap64_small (by omega), wrap64_small (by omega)]
    rw [List.foldl_cons, e, plus_fold xs _ (fun y hy => h y (by simp [hy])) (by simp only; omega) (by simp only; omega) (by simp only; omega) (by simp only; omega)]
    simp only [List.map_cons, List.sum_cons]
    exact Prod.ext (by simp only; omega) (by simp only; omega)
theorem sum_map (f : Nat → Int) : ∀ ks : List Nat, (ks.map f).sum = sumL f ks
  | [] => rfl
  | k :: r => by simp only [List.map_cons, List.sum_cons, sumL, sum_map f r]
theorem plusW_sum {s : Nat → Int × Int} {ks : List Nat} (hl : ks.length ≤ 16) (h : ∀ k ∈ ks, (0 ≤ (s k).1 ∧ (s k).1 ≤ 1600) ∧ (0 ≤ (s k).2 ∧ (s k).2 ≤ 1600)) :
    plusW (ks.map s) = (sumL (fun k => (s k).1) ks, sumL (fun k => (s k).2) ks) := by
  unfold plusW
  rw [plus_fold _ _ (fun x hx => by obtain ⟨k, hk, rfl⟩ := List.mem_map.1 hx; exact h k hk) (by simp) (by simp) (by simp; omega) (by simp; omega)]
  rw [← sum_map, ← sum_map]
  simp [List.map_map, Function.comp_def]
theorem told_bd (l : List (Int × Int × Int)) (i : Nat) : 0 ≤ (toldW l i).1 ∧ (toldW l i).2 ≤ 1600 := by
  unfold toldW
  have key : ∀ (l : List (Int × Int × Int)) (s : Int × Int), 0 ≤ s.1 ∧ s.2 ≤ 1600 → 0 ≤ (l.foldl (fun s r => if r.1 = (i : Int) then andS s r.2 else s) s).1 ∧ (l.foldl (fun s r => if r.1 = (i : Int) then andS s r.2 else s) s).2 ≤ 1600 := by
    intro l
    induction l with
    | nil => exact fun s h => h
    | cons r l ih =>
      intro s h
      rw [List.foldl_cons]
      refine ih _ ?_
      by_cases e : r.1 = (i : Int)
      · rw [if_pos e]; simp only [andS]; omega
      · rw [if_neg e]; exact h
  exact key l _ (by simp)
theorem kids_len {m : List (Int × Int)} (hm : MOk m) (i : Nat) : (kids m i).length ≤ 16 := by
  have := List.length_filter_le (fun k => decide (parW m k = (i : Int))) (List.range m.length)
  have := hm.le
  simp [kids] at *
  omega

/-- The mains from p on are done. -/
def UpTo (m : List (Int × Int)) (l : List (Int × Int × Int)) (p : Nat) (s : Nat → Int × Int) : Prop :=
  (∀ i, p ≤ i → i < m.length → s i = andS (toldW l i) (ownW m s i) ∧ (s i).1 ≤ (s i).2) ∧ ∀ i, i < p → i < m.length → s i = toldW l i
section
variable {m : List (Int × Int)} {l : List (Int × Int × Int)} {s d : Nat → Int × Int}
theorem UpTo.bd {p : Nat} (h : UpTo m l p s) {i : Nat} (hp : p ≤ i) (hi : i < m.length) : 0 ≤ (s i).1 ∧ (s i).1 ≤ (s i).2 ∧ (s i).2 ≤ 1600 := by
  obtain ⟨h1, h2⟩ := h.1 i hp hi
  have h3 := told_bd l i
  rw [h1] at h2 ⊢
  simp only [andS] at h2 ⊢
  omega
theorem sound_from (hm : MOk m) {p : Nat} (hu : UpTo m l p s) {x : Nat → Int} (hx : Feas m l x) : ∀ (g i : Nat), p ≤ i → i < m.length → m.length ≤ i + g → (s i).1 ≤ x i ∧ x i ≤ (s i).2
  | 0, i, _, hi, hg => by omega
  | g + 1, i, hp, hi, hg => by
    obtain ⟨h1, h2, h3⟩ := hx i hi
    rw [(hu.1 i hp hi).1]
    unfold ownW
    by_cases e : kids m i = []
    · have := h2 e
      simp only [e, if_true, andS]
      omega
    · simp only [e, if_false, andS]
      have h4 := h3 e
      have hk : ∀ k ∈ kids m i, (s k).1 ≤ x k ∧ x k ≤ (s k).2 := fun k hk => sound_from hm hu hx g k (by have := kids_gt hm hk; omega) (kids_lt hk) (by have := kids_gt hm hk; omega)
      have a := sumL_le (l := kids m i) (fun k h => (hk k h).1)
      have b := sumL_le (l := kids m i) (fun k h => (hk k h).2)
      omega
theorem up_step {sl : List (Int × Int)} (hm : MOk m) (hsl : sl.length = m.length) {i : Nat} (hi : i < m.length) (hu : UpTo m l (i + 1) (sF sl)) :
    ((newL m sl i).1 ≤ (newL m sl i).2 → UpTo m l i (sF (sl.set i (newL m sl i)))) ∧ (¬ (newL m sl i).1 ≤ (newL m sl i).2 → ¬ ∃ x, Feas m l x) := by
  have hv : newL m sl i = andS (toldW l i) (ownW m (sF sl) i) := by
    have h1 := hu.2 i (by omega) hi
    unfold newL ownL ownW
    rw [show sl.getD i (0, 0) = sF sl i from rfl, h1]
    by_cases e : kids m i = []
    · rw [if_pos e, if_pos e]
    · rw [if_neg e, if_neg e]
      congr 1
      exact plusW_sum (s := sF sl) (kids_len hm i) (fun k hk => by
        have := hu.bd (show i + 1 ≤ k by have := kids_gt hm hk; omega) (kids_lt hk)
        omega)
  refine ⟨fun hle => ?_, fun hgt => ?_⟩
  · have hk : ∀ j, i ≤ j → ∀ k ∈ kids m j, sF (sl.set i (newL m sl i)) k = sF sl k := fun j hj k hk => by
      rw [sF_set (by omega), if_neg (by have := kids_gt hm hk; omega)]
    have ho : ∀ j, i ≤ j → ownW m (sF (sl.set i (newL m sl i))) j = ownW m (sF sl) j := fun j hj => by
      unfold ownW
      rw [sumL_congr (fun k h => by rw [hk j hj k h]), sumL_congr (f := fun k => (sF (sl.set i (newL m sl i)) k).2) (fun k h => by rw [hk j hj k h])]
    refine ⟨fun j hj hjn => ?_, fun j hj hjn => ?_⟩
    · rw [ho j hj, sF_set (by omega)]
      by_cases e : j = i
      · subst e
        rw [if_pos rfl]
        exact ⟨hv, hle⟩
      · rw [if_neg e]
        exact hu.1 j (by omega) hjn
    · rw [sF_set (by omega), if_neg (by omega)]
      exact hu.2 j (by omega) hjn
  · rintro ⟨x, hx⟩
    obtain ⟨h1, h2, h3⟩ := hx i hi
    rw [hv] at hgt
    unfold ownW at hgt
    by_cases e : kids m i = []
    · have := h2 e
      simp only [e, if_true, andS] at hgt
      omega
    · simp only [e, if_false, andS] at hgt
      have h4 := h3 e
      have hk : ∀ k ∈ kids m i, (sF sl k).1 ≤ x k ∧ x k ≤ (sF sl k).2 := fun k hk => sound_from hm hu hx m.length k (by have := kids_gt hm hk; omega) (kids_lt hk) (by omega)
      have a := sumL_le (l := kids m i) (fun k h => (hk k h).1)
      have b := sumL_le (l := kids m i) (fun k h => (hk k h).2)
      omega

/-- The walk up has been at the mains of which P holds. -/
structure DnP (m : List (Int × Int)) (l : List (Int × Int × Int)) (s : Nat → Int × Int) (P : Nat → Prop) (d : Nat → Int × Int) : Prop where
  up : UpTo m l 0 s
  zero : d 0 = s 0
  done : ∀ x, 0 < x → x < m.length → P x → d x = andS (s x) (leftW m s d x)
  rest : ∀ x, 0 < x → x < m.length → ¬ P x → d x = s x
  sound : ∀ x, Feas m l x → ∀ i, i < m.length → (d i).1 ≤ x i ∧ x i ≤ (d i).2
  sub : ∀ i, i < m.length → (s i).1 ≤ (d i).1 ∧ (d i).2 ≤ (s i).2
theorem UpTo.ups (h : UpTo m l 0 s) : UpS m l s := fun i hi => (h.1 i (Nat.zero_le _) hi).1
theorem UpTo.ne (h : UpTo m l 0 s) (i : Nat) (hi : i < m.length) : (s i).1 ≤ (s i).2 := (h.1 i (Nat.zero_le _) hi).2
theorem DnP.start (hm : MOk m) (h : UpTo m l 0 s) (P : Nat → Prop) (hP : ∀ x, 0 < x → x < m.length → ¬ P x) : DnP m l s P s :=
  ⟨h, rfl, fun x h1 h2 h3 => absurd h3 (hP x h1 h2), fun _ _ _ _ => rfl, fun x hx i hi => feas_in hm h.ups hx hi, fun i _ => ⟨Int.le_refl _, Int.le_refl _⟩⟩
theorem DnP.bd (hm : MOk m) {P : Nat → Prop} (h : DnP m l s P d) (i : Nat) (hi : i < m.length) : 0 ≤ (d i).1 ∧ (d i).1 ≤ (d i).2 ∧ (d i).2 ≤ 1600 := by
  obtain ⟨x, hx⟩ := feas_of_up hm h.up.ups h.up.ne
  have h1 := h.sound x hx i hi
  have h2 := h.sub i hi
  have h3 := h.up.bd (Nat.zero_le i) hi
  omega
theorem DnP.spans (hm : MOk m) {P : Nat → Prop} (h : DnP m l s P d) (hP : ∀ x, 0 < x → x < m.length → P x) : IsSpans m l d :=
  isSpans hm h.up.ups h.up.ne ⟨h.zero, fun x h1 h2 => h.done x h1 h2 (hP x h1 h2)⟩
/-- One more main. -/
theorem DnP.step (hm : MOk m) {P P' : Nat → Prop} (h : DnP m l s P d) {x : Nat} (h0 : 0 < x) (hx : x < m.length) (hPx : ¬ P x) (hP' : ∀ y, 0 < y → y < m.length → (P' y ↔ P y ∨ y = x))
    (hsib : ∀ k ∈ sibs m x, (P k ↔ k < x)) (hpar : ∀ y, 0 < y → y < m.length → P y → parW m y ≠ (x : Int)) (hcur : ∀ y, 0 < y → y < m.length → P y → x ∈ sibs m y → ¬ x < y) {v : Int × Int}
    (hv : v = andS (d x) ((d (parW m x).toNat).1 - sumL (fun k => (d k).2) (sibs m x), (d (parW m x).toNat).2 - sumL (fun k => (d k).1) (sibs m x))) {d' : Nat → Int × Int} (hd' : ∀ k, d' k = if k = x then v else d k) : DnP m l s P' d' := by
  obtain ⟨p1, p2, p3⟩ := par_nat hm h0 hx
  have hsk : ∀ k ∈ sibs m x, d k = (if k < x then d k else s k) := fun k hk => by
    by_cases e : k < x
    · rw [if_pos e]
    · rw [if_neg e]
      have hkm := (mem_sibs.1 hk).1
      exact h.rest k (by have := kids_gt hm hkm; omega) (kids_lt hkm) (fun hp => e ((hsib k hk).1 hp))
  have hvx : v = andS (s x) (leftW m s d x) := by
    rw [hv, h.rest x h0 hx hPx]
    unfold leftW
    simp only
    rw [sumL_congr (fun k hk => by rw [hsk k hk]), sumL_congr (f := fun k => (d k).1) (g := fun k => (if k < x then d k else s k).1) (fun k hk => by rw [← hsk k hk])]
  have hl : ∀ y, 0 < y → y < m.length → P y ∨ y = x → leftW m s d' y = leftW m s d y := fun y hy0 hy hPy => by
    obtain ⟨q1, q2, q3⟩ := par_nat hm hy0 hy
    have e1 : d' (parW m y).toNat = d (parW m y).toNat := by
      rw [hd', if_neg]
      intro e
      rcases hPy with hp | rfl
      · exact hpar y hy0 hy hp (by omega)
      · omega
    have e2 : ∀ k ∈ sibs m y, (if k < y then d' k else s k) = (if k < y then d k else s k) := fun k hk => by
      by_cases e : k < y
      · rw [if_pos e, if_pos e, hd', if_neg]
        rintro rfl
        rcases hPy with hp | rfl
        · exact hcur y hy0 hy hp hk e
        · omega
      · rw [if_neg e, if_neg e]
    unfold leftW
    simp only
    rw [e1, sumL_congr (fun k hk => by rw [e2 k hk]), sumL_congr (f := fun k => (if k < y then d' k else s k).1) (g := fun k => (if k < y then d k else s k).1) (fun k hk => by rw [e2 k hk])]
  have hsx : (s x).1 ≤ v.1 ∧ v.2 ≤ (s x).2 := by rw [hvx]; simp only [andS]; omega
  refine ⟨h.up, by rw [hd', if_neg (by omega)]; exact h.zero, fun y hy0 hy hPy => ?_, fun y hy0 hy hPy => ?_, fun z hz i hi => ?_, fun i hi => ?_⟩
  · have hPy' := (hP' y hy0 hy).1 hPy
    rw [hl y hy0 hy hPy', hd']
    by_cases e : y = x
    · subst e; rw [if_pos rfl]; exact hvx
    · rw [if_neg e]
      exact h.done y hy0 hy (hPy'.resolve_right e)
  · have hPy' := fun hh => hPy ((hP' y hy0 hy).2 hh)
    rw [hd', if_neg (fun e => hPy' (.inr e))]
    exact h.rest y hy0 hy (fun hp => hPy' (.inl hp))
  · rw [hd']
    by_cases e : i = x
    · subst e
      rw [if_pos rfl, hv]
      have a1 := h.sound z hz i hi
      have a2 := h.sound z hz _ (show (parW m i).toNat < m.length by omega)
      have hne : kids m (parW m i).toNat ≠ [] := fun e => by rw [e] at p3; cases p3
      have hs := (hz _ (show (parW m i).toNat < m.length by omega)).2.2 hne
      rw [sumL_one z (kids_nodup _ _) p3] at hs
      have hk : ∀ k ∈ sibs m i, (d k).1 ≤ z k ∧ z k ≤ (d k).2 := fun k hk => h.sound z hz k (kids_lt (mem_sibs.1 hk).1)
      have a := sumL_le (l := sibs m i) (fun k h => (hk k h).1)
      have b := sumL_le (l := sibs m i) (fun k h => (hk k h).2)
      simp only [andS]
      unfold sibs at a b ⊢
      omega
    · rw [if_neg e]; exact h.sound z hz i hi
  · rw [hd']
    by_cases e : i = x
    · subst e; rw [if_pos rfl]; exact hsx
    · rw [if_neg e]; exact h.sub i hi

theorem kids_sorted (m : List (Int × Int)) (i : Nat) : (kids m i).Pairwise (· < ·) := List.pairwise_lt_range.filter _
theorem drop_one {l : List Nat} (hn : l.Nodup) {j : Nat} (hj : j < l.length) : l.take j ++ l.drop (j + 1) = l.filter fun k => k != l[j] := by
  have h1 := List.nodup_iff_pairwise_ne.1 hn
  have e := List.take_append_drop j l
  rw [List.drop_eq_getElem_cons hj] at e
  have h2 : (l.take j ++ l[j] :: l.drop (j + 1)).Nodup := by rw [e]; exact hn
  obtain ⟨a1, a2, a3⟩ := List.nodup_append.1 h2
  obtain ⟨b1, b2⟩ := List.nodup_cons.1 a2
  have key : ∀ x, x = l[j] → (l.take j ++ x :: l.drop (j + 1)).filter (fun k => k != x) = l.take j ++ l.drop (j + 1) := by
    rintro x rfl
    rw [List.filter_append, List.filter_cons]
    simp only [bne_self_eq_false, Bool.false_eq_true, if_false]
    rw [List.filter_eq_self.2 (fun k hk => by
      have : k ≠ l[j] := fun h => a3 k hk l[j] List.mem_cons_self h
      simpa using this), List.filter_eq_self.2 (fun k hk => by
      have : k ≠ l[j] := fun h => b1 (h ▸ hk)
      simpa using this)]
  have := key _ rfl
  rw [e] at this
  exact this.symm
theorem others_sibs (hm : MOk m) {i j : Nat} (hj : j < (kids m i).length) : othersL m i j = sibs m (kids m i)[j] := by
  have h := (mem_kids.1 (List.getElem_mem hj)).2
  unfold othersL sibs
  rw [drop_one (kids_nodup m i) hj, h, Int.toNat_natCast]
/-- Which mains have been done when parent i's first j kids are. -/
def PJ (m : List (Int × Int)) (i j x : Nat) : Prop := parW m x < (i : Int) ∨ (parW m x = (i : Int) ∧ x ∈ (kids m i).take j)
theorem up2_step {dl : List (Int × Int)} (hm : MOk m) (hdl : dl.length = m.length) {i j : Nat} (hi : i < m.length) (hj : j < (kids m i).length) (h : DnP m l s (PJ m i j) (sF dl)) :
    DnP m l s (PJ m i (j + 1)) (sF (dl.set (kids m i)[j] (chV m dl i j))) := by
  have hk := List.getElem_mem hj
  have hx := kids_lt hk
  have hgt := kids_gt hm hk
  have hp := (mem_kids.1 hk).2
  have hsrt := List.pairwise_iff_getElem.1 (kids_sorted m i)
  have htake : ∀ y, y ∈ (kids m i).take j ↔ y ∈ kids m i ∧ y < (kids m i)[j] := fun y => by
    constructor
    · intro hy
      obtain ⟨n, hn, rfl⟩ := List.mem_iff_getElem.1 hy
      simp only [List.length_take] at hn
      rw [List.getElem_take]
      exact ⟨List.getElem_mem _, hsrt n j (by omega) hj (by omega)⟩
    · rintro ⟨hy, hlt⟩
      obtain ⟨n, hn, rfl⟩ := List.mem_iff_getElem.1 hy
      have : n < j := by
        rcases Nat.lt_trichotomy n j with h1 | h1 | h1
        · exact h1
        · subst h1; omega
        · have := hsrt j n hj hn h1; omega
      exact List.mem_iff_getElem.2 ⟨n, by simp; omega, by simp⟩
  have hnx : (kids m i)[j] ∉ (kids m i).take j := fun hh => by have := ((htake _).1 hh).2; omega
  have e1 : (kids m i).getD j 0 = (kids m i)[j] := by simp [List.getD, hj]
  refine h.step hm (x := (kids m i)[j]) (by omega) hx ?_ (fun y hy0 hy => ?_) (fun k hks => ?_) (fun y hy0 hy hP => ?_) (fun y hy0 hy hP hxs hxy => ?_) (v := chV m dl i j) ?_ (fun k => sF_set (by omega) _ k)
  · rintro (h1 | ⟨_, h1⟩)
    · omega
    · exact hnx h1
  · unfold PJ
    rw [List.take_succ_eq_append_getElem hj, List.mem_append, List.mem_singleton]
    constructor
    · rintro (h1 | ⟨h1, h2 | h2⟩)
      · exact .inl (.inl h1)
      · exact .inl (.inr ⟨h1, h2⟩)
      · exact .inr h2
    · rintro ((h1 | ⟨h1, h2⟩) | h2)
      · exact .inl h1
      · exact .inr ⟨h1, .inl h2⟩
      · exact .inr ⟨by rw [h2]; exact hp, .inr h2⟩
  · obtain ⟨h1, h2⟩ := mem_sibs.1 hks
    have h3 := (mem_kids.1 h1).2
    rw [hp, Int.toNat_natCast] at h1 h3
    unfold PJ
    rw [htake]
    constructor
    · rintro (h4 | ⟨_, _, h4⟩)
      · omega
      · exact h4
    · intro h4
      exact .inr ⟨h3, h1, h4⟩
  · rcases hP with h1 | ⟨h1, _⟩ <;> omega
  · obtain ⟨h1, h2⟩ := mem_sibs.1 hxs
    have h3 := (mem_kids.1 h1).2
    rcases hP with h4 | ⟨_, h4⟩
    · obtain ⟨q1, _, _⟩ := par_nat hm hy0 hy
      omega
    · have := ((htake y).1 h4).2
      omega
  · have hb : ∀ k, k < m.length → (0 ≤ (sF dl k).1 ∧ (sF dl k).1 ≤ 1600) ∧ (0 ≤ (sF dl k).2 ∧ (sF dl k).2 ≤ 1600) := fun k hk => by have := h.bd hm k hk; omega
    have hol : (othersL m i j).length ≤ 16 := by
      rw [others_sibs hm hj]
      have := List.length_filter_le (fun k => k != (kids m i)[j]) (kids m (parW m (kids m i)[j]).toNat)
      have := kids_len hm (parW m (kids m i)[j]).toNat
      unfold sibs
      omega
    have hos : ∀ k ∈ othersL m i j, k < m.length := fun k hk => by rw [others_sibs hm hj] at hk; exact kids_lt (mem_sibs.1 hk).1
    have hps := plusW_sum (s := sF dl) hol (fun k hk => hb k (hos k hk))
    have hs1 := sumL_le (l := othersL m i j) (f := fun _ => 0) (g := fun k => (sF dl k).1) (fun k hk => (hb k (hos k hk)).1.1)
    have hs2 := sumL_le (l := othersL m i j) (f := fun _ => 0) (g := fun k => (sF dl k).2) (fun k hk => (hb k (hos k hk)).2.1)
    have hc : sumL (fun _ => 1600) (othersL m i j) = 1600 * ((othersL m i j).length : Int) := by
      generalize othersL m i j = o
      induction o with
      | nil => rfl
      | cons a r ih => simp only [sumL, ih, List.length_cons]; omega
    have hs3 := sumL_le (l := othersL m i j) (f := fun k => (sF dl k).1) (g := fun _ => 1600) (fun k hk => (hb k (hos k hk)).1.2)
    have hs4 := sumL_le (l := othersL m i j) (f := fun k => (sF dl k).2) (g := fun _ => 1600) (fun k hk => (hb k (hos k hk)).2.2)
    rw [sumL_zero] at hs1 hs2
    rw [hc] at hs3 hs4
    have hbi := hb i hi
    unfold chV
    simp only
    rw [show (fun k => dl.getD k (0, 0)) = sF dl from rfl, show ∀ k, dl.getD k (0, 0) = sF dl k from fun _ => rfl, show ∀ k, dl.getD k (0, 0) = sF dl k from fun _ => rfl, hps, e1]
    simp only
    rw [wrap64_small (by omega), wrap64_small (by omega), hp, Int.toNat_natCast, others_sibs hm hj]
end
end Go.Proofs.YtgdilbilhajgaaaDoor
