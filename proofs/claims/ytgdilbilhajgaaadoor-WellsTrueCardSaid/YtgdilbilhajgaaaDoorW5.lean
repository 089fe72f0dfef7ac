/- Lists of least costs along the tree (plain). -/
import Derived.Test.YtgdilbilhajgaaaDoorE22
namespace Go.Proofs.YtgdilbilhajgaaaDoor
set_option linter.unusedVariables false
set_option linter.unusedSimpArgs false
open Go Go.RowKit

section
variable {m : List (Int × Int)} {l : List (Int × Int × Int)}
theorem best_nil : BestP (PAtt m l []) 0 [0] := by
  refine ⟨fun v c h => ?_, fun j hj => ?_⟩
  · obtain ⟨rfl, rfl⟩ := patt_nil.1 h
    exact ⟨0, by simp, by simp, by simp⟩
  · obtain rfl : j = 0 := by simpa using hj
    exact patt_nil.2 ⟨by simp, by simp⟩
theorem best_plus {ks : List Nat} (hnd : ks.Nodup) {k : Nat} (hk : k < ks.length) {f g : Int} {L M R : List Int} (hL : BestP (PAtt m l (ks.take k)) f L) (hM : BestP (Att m l ks[k]) g M) (hR : ConvR L M R) : BestP (PAtt m l (ks.take (k + 1))) (f + g) R := by
  refine (hL.conv hM hR.2.1 hR.2.2).iff fun v c => ?_
  rw [List.take_succ_eq_append_getElem hk]
  refine (patt_snoc ?_).symm
  intro hmem
  obtain ⟨j, hj, e⟩ := List.mem_iff_getElem.1 hmem
  rw [List.getElem_take] at e
  have hjk : j < k := by simp at hj; omega
  have := List.pairwise_iff_getElem.1 hnd j k (by omega) hk hjk
  exact this e
def leafL (lim : Int) (k : Nat) : List Int := (List.range (k + 1)).map fun j : Nat => max 0 ((j : Int) - lim)
theorem leafL_len (lim : Int) (k : Nat) : (leafL lim k).length = k + 1 := by simp [leafL]
theorem leafL_zero {lim : Int} (h : 0 ≤ lim) : leafL lim 0 = [0] := by
  unfold leafL
  simp
  omega
theorem leafL_succ (lim : Int) (k : Nat) : leafL lim (k + 1) = leafL lim k ++ [max 0 (((k + 1 : Nat) : Int) - lim)] := by
  unfold leafL
  rw [List.range_succ (n := k + 1), List.map_append]
  rfl
theorem best_leaf (lim : Int) : BestP (fun v c => 0 ≤ v ∧ v ≤ 100 ∧ c = max 0 (v - lim)) 0 (leafL lim 100) := by
  refine ⟨fun v c ⟨h1, h2, h3⟩ => ?_, fun j hj => ?_⟩
  · refine ⟨v.toNat, by rw [leafL_len]; omega, by omega, ?_⟩
    subst h3
    simp only [leafL, List.getElem_map, List.getElem_range]
    omega
  · rw [leafL_len] at hj
    simp only [leafL, List.getElem_map, List.getElem_range]
    refine ⟨by omega, by omega, ?_⟩
    congr 1
    omega
theorem best_cut {P : Int → Int → Prop} {f : Int} {L : List Int} {T : Int × Int} (hp : BestP P f L) (hne : ∃ v c, P v c ∧ (T.1 ≤ v ∧ v ≤ T.2)) :
    ∃ k n : Nat, k < n ∧ n ≤ L.length ∧ max T.1 f = f + (k : Int) ∧ min T.2 (f + (L.length : Int) - 1) = f + (n : Int) - 1 ∧ BestP (fun v c => P v c ∧ (T.1 ≤ v ∧ v ≤ T.2)) (f + (k : Int)) ((L.take n).drop k) := by
  obtain ⟨v, c, h1, h2, h3⟩ := hne
  obtain ⟨j, hj, rfl, _⟩ := hp.1 v c h1
  obtain ⟨k, hk⟩ : ∃ k : Nat, max T.1 f = f + (k : Int) := ⟨(max T.1 f - f).toNat, by omega⟩
  obtain ⟨n, hn⟩ : ∃ n : Nat, min T.2 (f + (L.length : Int) - 1) = f + (n : Int) - 1 := ⟨(min T.2 (f + (L.length : Int) - 1) - f + 1).toNat, by omega⟩
  refine ⟨k, n, by omega, by omega, hk, hn, hp.cut k n (by omega) (by omega) fun j' hj' => ?_⟩
  constructor
  · rintro ⟨h4, h5⟩; omega
  · rintro ⟨h4, h5⟩; omega
theorem best_node {i : Nat} (hi : i < m.length) (hk : kids m i ≠ []) {f : Int} {L : List Int} (h : BestP (fun v c => PAtt m l (kids m i) v c ∧ ((toldW l i).1 ≤ v ∧ v ≤ (toldW l i).2)) f L) : BestP (Att m l i) f L := h.iff fun v c => (att_node hi hk).symm
theorem best_well {i : Nat} (hi : i < m.length) (hk : kids m i = []) {f : Int} {L : List Int} (h : BestP (fun v c => (0 ≤ v ∧ v ≤ 100 ∧ c = max 0 (v - limW m i)) ∧ ((toldW l i).1 ≤ v ∧ v ≤ (toldW l i).2)) f L) : BestP (Att m l i) f L := h.iff fun v c => (att_well hi hk).symm
theorem best_bd (hm : MOk m) {i : Nat} {f : Int} {L : List Int} (h : BestP (Att m l i) f L) (h1 : 1 ≤ L.length) : 0 ≤ f ∧ f + (L.length : Int) ≤ 1601 ∧ ∀ x ∈ L, 0 ≤ x ∧ x ≤ 1600 := by
  have a := (h.2 0 (by omega)).bd hm
  have b := (h.2 (L.length - 1) (by omega)).bd hm
  refine ⟨by omega, by omega, fun x hx => ?_⟩
  obtain ⟨j, hj, rfl⟩ := List.mem_iff_getElem.1 hx
  have := (h.2 j hj).bd hm
  omega
theorem sumL_bd (f : Nat → Int) (ks : List Nat) (lo hi : Int) (h : ∀ k ∈ ks, lo ≤ f k ∧ f k ≤ hi) : lo * ks.length ≤ sumL f ks ∧ sumL f ks ≤ hi * ks.length := by
  induction ks with
  | nil => simp [sumL]
  | cons a r ih =>
    have h1 := ih (fun k hk => h k (by simp [hk]))
    have h2 := h a (by simp)
    have e : sumL f (a :: r) = f a + sumL f r := by simp [sumL]
    rw [e, List.length_cons]
    have e1 : lo * ((r.length + 1 : Nat) : Int) = lo * (r.length : Int) + lo := by push_cast; rw [Int.mul_add, Int.mul_one]
    have e2 : hi * ((r.length + 1 : Nat) : Int) = hi * (r.length : Int) + hi := by push_cast; rw [Int.mul_add, Int.mul_one]
    omega
theorem patt_bd (hm : MOk m) {ks : List Nat} {v c : Int} (h : PAtt m l ks v c) : (0 ≤ v ∧ v ≤ 1600 * (ks.length : Int)) ∧ 0 ≤ c ∧ c ≤ 1600 * (ks.length : Int) := by
  obtain ⟨y, e, h1, rfl, rfl⟩ := h
  have a := sumL_bd y ks 0 1600 (fun k hk => by have := (h1 k hk).bd hm; omega)
  have b := sumL_bd e ks 0 1600 (fun k hk => by have := (h1 k hk).bd hm; omega)
  omega
theorem best_pbd (hm : MOk m) {ks : List Nat} {f : Int} {L : List Int} (h : BestP (PAtt m l ks) f L) (h1 : 1 ≤ L.length) (hk : ks.length ≤ 16) : 0 ≤ f ∧ f + (L.length : Int) ≤ 25601 ∧ ∀ x ∈ L, 0 ≤ x ∧ x ≤ 25600 := by
  have a := patt_bd hm (h.2 0 (by omega))
  have b := patt_bd hm (h.2 (L.length - 1) (by omega))
  refine ⟨by omega, by omega, fun x hx => ?_⟩
  obtain ⟨j, hj, rfl⟩ := List.mem_iff_getElem.1 hx
  have := patt_bd hm (h.2 j hj)
  omega
theorem best_excess (hm : MOk m) {f : Int} {L : List Int} (h : BestP (Att m l 0) f L) {v : Int} (hv : v ∈ L) (hle : ∀ y ∈ L, v ≤ y) : IsExcess m l v := by
  refine isExcess_of_att hm ?_ fun v' c' h' => ?_
  · obtain ⟨j, hj, rfl⟩ := List.mem_iff_getElem.1 hv
    exact ⟨_, h.2 j hj⟩
  · obtain ⟨j, hj, _, h2⟩ := h.1 v' c' h'
    have := hle _ (List.getElem_mem hj)
    omega
theorem att_ne (hm : MOk m) (hf : ∃ x, Feas m l x) {i : Nat} (hi : i < m.length) : ∃ v c, Att m l i v c := by
  obtain ⟨x, hx⟩ := hf
  obtain ⟨c, hc⟩ := att_some hm hx hi
  exact ⟨_, _, hc⟩
end
end Go.Proofs.YtgdilbilhajgaaaDoor
