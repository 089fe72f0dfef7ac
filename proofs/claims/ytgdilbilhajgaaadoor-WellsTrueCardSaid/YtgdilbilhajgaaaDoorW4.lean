/- Sets of readings by bits (plain); the fewest that prove. -/
import Derived.Test.YtgdilbilhajgaaaDoorE17
namespace Go.Proofs.YtgdilbilhajgaaaDoor
set_option linter.unusedVariables false
set_option linter.unusedSimpArgs false
open Go Go.RowKit Go.Sort

def ofBits (q : List Nat) : Nat := q.foldr (fun k a => 2 ^ k ||| a) 0
theorem testBit_ofBits (i : Nat) : ∀ q : List Nat, (ofBits q).testBit i = decide (i ∈ q)
  | [] => by simp [ofBits]
  | k :: q => by
    have := testBit_ofBits i q
    unfold ofBits at this ⊢
    rw [List.foldr_cons, Nat.testBit_or, this, Nat.testBit_two_pow]
    by_cases h : k = i
    · subst h; simp
    · have h2 : ¬ i = k := fun e => h e.symm
      simp [h, h2]
theorem ofBits_lt {N : Nat} : ∀ q : List Nat, (∀ k ∈ q, k < N) → ofBits q < 2 ^ N
  | [], _ => by simp [ofBits]; exact Nat.two_pow_pos N
  | k :: q, h => by
    have h1 := ofBits_lt q (fun j hj => h j (by simp [hj]))
    have h2 : 2 ^ k < 2 ^ N := Nat.pow_lt_pow_right (by decide) (h k (by simp))
    unfold ofBits at h1 ⊢
    rw [List.foldr_cons]
    exact Nat.or_lt_two_pow h2 h1
theorem sorted_eq : ∀ {p q : List Nat}, p.Pairwise (· < ·) → q.Pairwise (· < ·) → (∀ k, k ∈ p ↔ k ∈ q) → p = q
  | [], [], _, _, _ => rfl
  | [], y :: q, _, _, h => by have := (h y).2 (by simp); cases this
  | x :: p, [], _, _, h => by have := (h x).1 (by simp); cases this
  | x :: p, y :: q, hp, hq, h => by
    obtain ⟨a1, a2⟩ := List.pairwise_cons.1 hp
    obtain ⟨b1, b2⟩ := List.pairwise_cons.1 hq
    have hxy : x = y := by
      have h1 := (h x).1 (by simp)
      have h2 := (h y).2 (by simp)
      rcases List.mem_cons.1 h1 with e | h1
      · exact e
      · rcases List.mem_cons.1 h2 with e | h2
        · exact e.symm
        · have := b1 x h1; have := a1 y h2; omega
    subst hxy
    congr 1
    refine sorted_eq a2 b2 fun k => ?_
    constructor
    · intro hk
      have h1 := (h k).1 (by simp [hk])
      rcases List.mem_cons.1 h1 with e | h1
      · subst e; have := a1 k hk; omega
      · exact h1
    · intro hk
      have h1 := (h k).2 (by simp [hk])
      rcases List.mem_cons.1 h1 with e | h1
      · subst e; have := b1 k hk; omega
      · exact h1
theorem bitsL_sorted (s : Nat) : (bitsL s).Pairwise (· < ·) := List.pairwise_lt_range.filter _
theorem bits_of {q : List Nat} (hq : q.Pairwise (· < ·)) (h : ∀ k ∈ q, k < 12) : bitsL (ofBits q) = q :=
  sorted_eq (bitsL_sorted _) hq fun k => by
    unfold bitsL
    rw [List.mem_filter, testBit_ofBits]
    simp only [List.mem_range, decide_eq_true_iff]
    exact ⟨fun h => h.2, fun hk => ⟨h k hk, hk⟩⟩

/-- Fewer readings, or as many and ahead of them. -/
def aheadL (q p : List Nat) : Prop := q.length < p.length ∨ (q.length = p.length ∧ q < p)
structure IsProof (m : List (Int × Int)) (l : List (Int × Int × Int)) (main : Nat) (p : List Nat) : Prop where
  sorted : p.Pairwise (· < ·)
  lt : ∀ k ∈ p, k < l.length
  sure : SureP m l main p
  least : ∀ q : List Nat, q.Pairwise (· < ·) → (∀ k ∈ q, k < l.length) → SureP m l main q → ¬ aheadL q p
theorem IsProof.eq {m : List (Int × Int)} {l : List (Int × Int × Int)} {main : Nat} {p q : List Nat} (h : IsProof m l main p) (h' : IsProof m l main q) : p = q := by
  have h1 := h.least q h'.sorted h'.lt h'.sure
  have h2 := h'.least p h.sorted h.lt h.sure
  unfold aheadL at h1 h2
  have e : p.length = q.length := by omega
  have a1 : ¬ q < p := fun h => h1 (.inr ⟨e.symm, h⟩)
  have a2 : ¬ p < q := fun h => h2 (.inr ⟨e, h⟩)
  rw [List.not_lt] at a1 a2
  exact List.le_antisymm a1 a2
def setsA (n : Nat) : List Set12 := (List.range n).map fun i => ⟨i % 4096, Nat.mod_lt _ (by decide)⟩
theorem setsA_len (n : Nat) : (setsA n).length = n := by simp [setsA]
theorem idxI_spec {α : Type} {p : α → Bool} {xs : List α} (h : ∃ x ∈ xs, p x = true) : ∃ i : Nat, ∃ hi : i < xs.length, idxI p xs = (i : Int) ∧ p xs[i] = true ∧ ∀ j (hj : j < i), p (xs[j]'(by omega)) = false := by
  unfold idxI
  cases hf : xs.findIdx? p with
  | none =>
    obtain ⟨x, hx, hp⟩ := h
    have := List.findIdx?_eq_none_iff.1 hf x hx
    rw [hp] at this
    cases this
  | some i =>
    obtain ⟨hi, hp, hlt⟩ := List.findIdx?_eq_some_iff_getElem.1 hf
    exact ⟨i, hi, rfl, hp, fun j hj => by simpa using hlt j hj⟩
/-- The first set in order that proves it. -/
theorem isProof_first {m : List (Int × Int)} {l : List (Int × Int × Int)} {main : Nat} (hl : l.length ≤ 12) (d d' : Array Set12) (hd : d.toList = setsA (2 ^ l.length)) (hp : PermIn 0 d.size d d') (hs : SortedIn (ltOf cfS) 0 d.size d')
    (hall : SureP m l main (List.range l.length)) :
    ∃ i : Nat, ∃ hi : i < d'.toList.length, idxI (sureB m l main) d'.toList = (i : Int) ∧ IsProof m l main (bitsL (d'.toList[i]).1) := by
  have hpow : 2 ^ l.length ≤ 4096 := Nat.pow_le_pow_right (by decide) hl
  have hperm : d'.toList.Perm (setsA (2 ^ l.length)) := by
    have h3 := hp.2.2
    have e1 : d.extract 0 d.size = d := by simp
    have e2 : d'.extract 0 d.size = d' := by rw [← hp.1]; simp
    rw [e1, e2, hd] at h3
    exact h3
  have hmem : ∀ q : List Nat, q.Pairwise (· < ·) → (∀ k ∈ q, k < l.length) → ∃ x ∈ d'.toList, bitsL x.1 = q := fun q hq hk => by
    have h1 := ofBits_lt q hk
    refine ⟨⟨ofBits q % 4096, Nat.mod_lt _ (by decide)⟩, hperm.mem_iff.2 (List.mem_map.2 ⟨ofBits q, List.mem_range.2 h1, rfl⟩), ?_⟩
    simp only
    rw [Nat.mod_eq_of_lt (by omega)]
    exact bits_of hq (fun k hk' => by have := hk k hk'; omega)
  have hbound : ∀ x ∈ d'.toList, ∀ k ∈ bitsL x.1, k < l.length := fun x hx => by
    obtain ⟨i, hi, rfl⟩ := List.mem_map.1 (hperm.mem_iff.1 hx)
    have := List.mem_range.1 hi
    simp only
    rw [Nat.mod_eq_of_lt (by omega)]
    exact bits_lt this
  obtain ⟨x, hx, hxe⟩ := hmem (List.range l.length) List.pairwise_lt_range (fun k hk => List.mem_range.1 hk)
  obtain ⟨i, hi, e, h1, h2⟩ := idxI_spec (p := sureB m l main) (xs := d'.toList) ⟨x, hx, sureB_iff.2 (by rw [hxe]; exact hall)⟩
  refine ⟨i, hi, e, bitsL_sorted _, hbound _ (List.getElem_mem hi), sureB_iff.1 h1, fun q hq hqk hqs hlt => ?_⟩
  obtain ⟨y, hy, hye⟩ := hmem q hq hqk
  obtain ⟨j, hj, rfl⟩ := List.mem_iff_getElem.1 hy
  have hyt : sureB m l main d'.toList[j] = true := sureB_iff.2 (by rw [hye]; exact hqs)
  have hsz : d'.size = d.size := hp.1
  rcases Nat.lt_trichotomy j i with h | h | h
  · rw [h2 j h] at hyt; cases hyt
  · subst h
    rw [hye] at hlt
    rcases hlt with h | ⟨_, h⟩
    · omega
    · exact List.lt_irrefl _ h
  · have hj' : j < d'.size := by simpa using hj
    have hi' : i < d'.size := by simpa using hi
    have := hs i j (Nat.zero_le _) h (by omega)
    rw [ltS_f] at this
    apply this
    unfold keyLt
    rw [getElem!_pos d' j hj', getElem!_pos d' i hi']
    rw [← hye] at hlt
    simpa [aheadL] using hlt
theorem some_all (l : List (Int × Int × Int)) : someL l (List.range l.length) = l := by
  unfold someL
  refine List.ext_getElem (by simp) fun i h1 h2 => by simp [List.getD, h2]
end Go.Proofs.YtgdilbilhajgaaaDoor
