/- Two lists of least excesses together. -/
import Derived.Test.YtgdilbilhajgaaaDoorE19
namespace Go.Proofs.YtgdilbilhajgaaaDoor
set_option linter.unusedVariables false
set_option linter.unusedSimpArgs false
open Go Go.RowKit Go.Shelf

theorem calls_marks {P : Program} {f : FuncId} {fn : Func} {c : Code} {args : Array Value} {w : World} {R : Ending → World → Prop} (hf : P.funcs[f]? = some fn) (hb : fn.body = some c)
    (h : c.wp P (bodyPostM Fence.wide 9 P fn R) { tmps := args ++ Array.replicate (fn.ntmps - args.size) undef, defers := [] } w) : Calls P f args w R :=
  callsIn_wide.1 (callsIn_of_wp_marks (F := Fence.wide) (n := 9) hf hb trivial (wpIn_wide.2 h) rfl)

/-- R tells the least sums of L and M over the pairs D; the other numbers are never. -/
def CvI (n1 n2 : Nat) (L M : Nat → Int) (D : Nat → Nat → Prop) (R : List Int) : Prop :=
  R.length + 1 = n1 + n2 ∧ (∀ a b, a < n1 → b < n2 → D a b → R.getD (a + b) 0 ≤ L a + M b) ∧
    ∀ t, t < R.length → 0 ≤ R.getD t 0 ∧ R.getD t 0 ≤ neverW ∧ (R.getD t 0 = neverW ∨ ∃ a b, a < n1 ∧ b < n2 ∧ a + b = t ∧ R.getD t 0 = L a + M b)
theorem CvI.iff {n1 n2 : Nat} {L M : Nat → Int} {D D' : Nat → Nat → Prop} {R : List Int} (h : CvI n1 n2 L M D R) (hD : ∀ a b, a < n1 → b < n2 → D' a b → D a b) : CvI n1 n2 L M D' R :=
  ⟨h.1, fun a b ha hb hd => h.2.1 a b ha hb (hD a b ha hb hd), h.2.2⟩
theorem getD_set_int (R : List Int) (i t : Nat) (v : Int) (hi : i < R.length) : (R.set i v).getD t 0 = if t = i then v else R.getD t 0 := by
  simp only [List.getD, List.getElem?_set]
  by_cases h : i = t
  · subst h; simp [hi]
  · rw [if_neg h, if_neg (fun e => h e.symm)]
theorem CvI.step {n1 n2 : Nat} {L M : Nat → Int} {D : Nat → Nat → Prop} {R : List Int} (h : CvI n1 n2 L M D R) (hL : ∀ a, a < n1 → 0 ≤ L a) (hM : ∀ b, b < n2 → 0 ≤ M b) {a b : Nat} (ha : a < n1) (hb : b < n2) :
    CvI n1 n2 L M (fun x y => D x y ∨ (x = a ∧ y = b)) (R.set (a + b) (min (R.getD (a + b) 0) (L a + M b))) := by
  obtain ⟨h1, h2, h3⟩ := h
  have hi : a + b < R.length := by omega
  have hla := hL a ha
  have hmb := hM b hb
  refine ⟨by simpa using h1, fun x y hx hy hd => ?_, fun t ht => ?_⟩
  · rw [getD_set_int _ _ _ _ hi]
    by_cases e : x + y = a + b
    · rw [if_pos e]
      rcases hd with hd | ⟨rfl, rfl⟩
      · have := h2 x y hx hy hd
        rw [e] at this
        omega
      · omega
    · rw [if_neg e]
      rcases hd with hd | ⟨rfl, rfl⟩
      · exact h2 x y hx hy hd
      · exact absurd rfl e
  · rw [getD_set_int _ _ _ _ hi]
    rw [List.length_set] at ht
    obtain ⟨k1, k2, k3⟩ := h3 t ht
    by_cases e : t = a + b
    · rw [if_pos e]
      subst e
      refine ⟨by omega, by omega, ?_⟩
      by_cases hc : R.getD (a + b) 0 ≤ L a + M b
      · rw [show min (R.getD (a + b) 0) (L a + M b) = R.getD (a + b) 0 by omega]
        exact k3
      · exact .inr ⟨a, b, ha, hb, rfl, by omega⟩
    · rw [if_neg e]
      exact ⟨k1, k2, k3⟩
theorem CvI.start {n1 n2 N : Nat} (L M : Nat → Int) (hN : N + 1 = n1 + n2) : CvI n1 n2 L M (fun _ _ => False) (List.replicate N neverW) := by
  refine ⟨by simpa using hN, fun _ _ _ _ h => h.elim, fun t ht => ?_⟩
  rw [List.length_replicate] at ht
  have e : (List.replicate N neverW).getD t 0 = neverW := by simp [List.getD, List.getElem?_replicate, ht]
  rw [e]
  exact ⟨by decide, by decide, .inl rfl⟩
/-- R is the least of the sums. -/
def ConvR (L M R : List Int) : Prop := R.length + 1 = L.length + M.length ∧ (∀ a b (ha : a < L.length) (hb : b < M.length), ∃ h : a + b < R.length, R[a + b] ≤ L[a] + M[b]) ∧ ∀ t (h : t < R.length), ∃ a b, ∃ (ha : a < L.length) (hb : b < M.length), a + b = t ∧ R[t] = L[a] + M[b]
theorem CvI.done {L M R : List Int} {D : Nat → Nat → Prop} (h : CvI L.length M.length (fun a => L.getD a 0) (fun b => M.getD b 0) D R) (hD : ∀ a b, a < L.length → b < M.length → D a b) (h1 : 1 ≤ L.length) (h2 : 1 ≤ M.length) (hL : ∀ x ∈ L, x ≤ 100000) (hM : ∀ x ∈ M, x ≤ 100000) : ConvR L M R := by
  obtain ⟨k1, k2, k3⟩ := h
  refine ⟨k1, fun a b ha hb => ⟨by omega, ?_⟩, fun t ht => ?_⟩
  · have := k2 a b ha hb (hD a b ha hb)
    simpa [List.getD, ha, hb, show a + b < R.length by omega] using this
  · obtain ⟨_, _, hn | ⟨a, b, ha, hb, e, he⟩⟩ := k3 t ht
    · exfalso
      obtain ⟨a, b, ha, hb, e⟩ : ∃ a b, a < L.length ∧ b < M.length ∧ a + b = t := by
        by_cases hc : t < L.length
        · exact ⟨t, 0, hc, by omega, by omega⟩
        · exact ⟨L.length - 1, t - (L.length - 1), by omega, by omega, by omega⟩
      have := k2 a b ha hb (hD a b ha hb)
      rw [e, hn] at this
      have e1 : L.getD a 0 = L[a] := by simp [List.getD, ha]
      have e2 : M.getD b 0 = M[b] := by simp [List.getD, hb]
      simp only [e1, e2] at this
      have := hL _ (List.getElem_mem ha)
      have := hM _ (List.getElem_mem hb)
      unfold neverW at *
      omega
    · exact ⟨a, b, ha, hb, e, by simpa [List.getD, ha, hb, ht] using he⟩
theorem rp_box {W : World} {S T N : Nat} {x : Int} (h : Rp W S T 1 N N [I x]) : Box W S ((List.replicate N x).map I) := by
  obtain ⟨L, h1, h2, h3⟩ := h
  refine ⟨(Array.getElem?_eq_some_iff.1 h1).1, fun k hk => ⟨?_, by simp [World.frozen?, h1]⟩⟩
  have hk' : k < N := by simpa using hk
  rw [cell_of_row W S k L.toArray T (0, 0) h1]
  have := h3 k (by omega)
  rw [Nat.mod_one] at this
  simpa using this
end Go.Proofs.YtgdilbilhajgaaaDoor
