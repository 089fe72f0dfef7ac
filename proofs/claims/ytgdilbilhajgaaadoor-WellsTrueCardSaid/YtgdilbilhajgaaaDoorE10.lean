/- Two parts of a row of numbers, joined. -/
import Derived.Test.YtgdilbilhajgaaaDoorE9
import Derived.ArgAppend
namespace Go.Proofs.YtgdilbilhajgaaaDoor
set_option linter.unusedVariables false
set_option linter.unusedSimpArgs false
open Go Go.RowKit

theorem ints_own {w : World} {base : Nat} {e : TypeId} {v : Value} {xs : List Int} (h : w.ownsRow base e 1 v xs.length (xs.map I)) : ∃ A c, v = .slice A xs.length c ∧ xs.length ≤ c ∧ c ≤ 9223372036854775807 ∧ Ints w w.heap.size A xs := by
  rcases own_form2 h with ⟨h1, h2⟩ | ⟨g, cap, h1, _, h3, h4, h5⟩
  · exact ⟨none, 0, by rw [h1, h2], by omega, by omega, fun h => by omega⟩
  · refine ⟨_, cap, h1, h4, h5, fun _ => ⟨g, 0, rfl, h3, fun k hk => ?_⟩⟩
    have hc := h.cells (g := g) (by rw [h1]; rfl) k (I xs[k]) (by simp [hk])
    rwa [Addr.add_lit] at hc
section
variable {F : Fence} {n : Nat} {P : Program} {Q : Exit → Act → World → Prop}
theorem opIn_append_cut (hro : F.round = none) (w : World) {o : Oper} {a : Act} {K : Act → World → Prop} (s x : Operand) (t : TypeId)
    (ho : o.op = .call { callee := .builtin .append, args := #[s, x], argTypes := #[t, t] })
    (e : TypeId) (i : TypeInfo) (bytes : Nat) (ht : P.underlying t = some (.slice e)) (hi : P.info? e = some i) (hz : i.zero = some (.int .i64 0)) (hsize : i.size = 1) (hby : i.bytes = bytes)
    (b off : Nat) (ys : List Int) (k : Nat) (hk : ys.length = k) (hs : a.eval s = .slice (some ⟨b, off, none⟩) k k) (hy : Ints w w.heap.size (some ⟨b, off, none⟩) ys)
    (A : Option Addr) (c m : Nat) (zs : List Int) (hm : zs.length = m) (hx : a.eval x = .slice A m c) (hzs : Ints w w.heap.size A zs)
    (h63 : k + m ≤ maxLen) (hbytes : (k + m) * bytes ≤ 140737488355328)
    (h : ∀ A' c' w', Ints w' w'.heap.size A' (ys ++ zs) → Below w.heap.size w w' → K (a.put o.dst (.slice A' (k + m) c')) w') : o.wpIn F n P a w K Q := by
  subst hk hm
  rcases Nat.eq_zero_or_pos zs.length with h0 | h0
  · obtain rfl : zs = [] := List.eq_nil_of_length_eq_zero h0
    have hsrc : Src P i.size t (.slice A 0 c) 0 [] w := by
      cases A with
      | none => exact Src.ofNil w ht c
      | some ad => exact Src.ofSlice w ht ad 0 c [] (by simp) (fun j u h => by simp at h) (fun u h => by simp at h)
    have hr := run_append_nothing (P := P) w t t o.type e i ht hi (some ⟨b, off, none⟩) ys.length ys.length (Nat.le_refl _) _ hsrc
    unfold Oper.wpIn
    refine ⟨?_, ?_⟩
    · simp [Oper.about, ho, resolve, Target.leads, Sem.run_pure]
    · rw [hro, Oper.semAt_none]
      simp only [List.length_nil] at hx
      simp only [execOp, ho, resolve, invoke, builtin, Sem.run_bind, Sem.run_pure, Result.andThen_ok, List.map_toArray, List.map_cons, List.map_nil, hs, hx, hr]
      exact h _ _ w (by simpa using hy) (Below.refl _ _)
  · obtain ⟨g, off', rfl, hb, hc⟩ := hzs h0
    obtain ⟨v', w', hr, h2, h3⟩ := run_append_arg_grows (P := P) w t o.type e i _ 1 bytes ht hi hz hsize hby rfl (by decide) ⟨b, off, none⟩ ys.length ys.length (ys.map I) (by simp) (fun j u hj => by
      rw [List.getElem?_map] at hj
      obtain ⟨y, hy', rfl⟩ := Option.map_eq_some_iff.1 hj
      obtain ⟨hj', rfl⟩ := List.getElem?_eq_some_iff.1 hy'
      obtain ⟨b', o', e1, _, hc'⟩ := hy (by omega)
      injection e1 with e1
      injection e1 with e1 e2
      subst e1 e2
      rw [Addr.add_lit]
      exact hc' j hj') ⟨g, off', none⟩ zs.length c (zs.map I) (by simp) (fun j u hj => by
      rw [List.getElem?_map] at hj
      obtain ⟨y, hy', rfl⟩ := Option.map_eq_some_iff.1 hj
      obtain ⟨hj', rfl⟩ := List.getElem?_eq_some_iff.1 hy'
      rw [Addr.add_lit]
      exact hc j hj') (by omega) h63 hbytes
    rw [← List.map_append] at h2
    obtain ⟨A', c', rfl, _, _, hI⟩ := ints_own (w := w') (xs := ys ++ zs) (by rw [List.length_append]; exact h2)
    unfold Oper.wpIn
    refine ⟨?_, ?_⟩
    · simp [Oper.about, ho, resolve, Target.leads, Sem.run_pure]
    · rw [hro, Oper.semAt_none]
      simp only [execOp, ho, resolve, invoke, builtin, Sem.run_bind, Sem.run_pure, Result.andThen_ok, List.map_toArray, List.map_cons, List.map_nil, hs, hx, hr]
      rw [List.length_append]
      exact h _ _ w' hI ⟨h3.os, h3.tape, h3.output, h3.size, fun k hk => h3.block k hk (by simp)⟩
end
theorem Ints.take {w : World} {B : Nat} {A : Option Addr} {xs : List Int} (h : Ints w B A xs) (j : Nat) : Ints w B A (xs.take j) := fun h0 => by
  obtain ⟨b, off, hA, hb, hc⟩ := h (by simp at h0; omega)
  exact ⟨b, off, hA, hb, fun k hk => by rw [hc k (by simp at hk; omega)]; simp⟩
theorem Ints.drop {w : World} {B b off : Nat} {xs : List Int} (h : Ints w B (some ⟨b, off, none⟩) xs) (j : Nat) : Ints w B (some ⟨b, off + j, none⟩) (xs.drop j) := fun h0 => by
  obtain ⟨b', off', hA, hb, hc⟩ := h (by simp at h0; omega)
  injection hA with hA
  injection hA with e1 e2
  subst e1 e2
  exact ⟨b, off + j, rfl, hb, fun k hk => by
    rw [Nat.add_assoc, hc (j + k) (by simp at hk; omega)]; simp⟩

/-- The others that flow into i, but for the kid at place j. -/
def othersL (m : List (Int × Int)) (i j : Nat) : List Nat := (kids m i).take j ++ (kids m i).drop (j + 1)
def chV (m sl : List (Int × Int)) (i j : Nat) : Int × Int :=
  let o := plusW ((othersL m i j).map fun k => sl.getD k (0, 0))
  andS (sl.getD ((kids m i).getD j 0) (0, 0)) (wrap64 ((sl.getD i (0, 0)).1 - o.2), wrap64 ((sl.getD i (0, 0)).2 - o.1))
def upL (m : List (Int × Int)) (i : Nat) (sl : List (Int × Int)) : Nat → List (Int × Int)
  | 0 => sl
  | j + 1 => (upL m i sl j).set ((kids m i).getD j 0) (chV m (upL m i sl j) i j)
theorem upL_len (m : List (Int × Int)) (i : Nat) (sl : List (Int × Int)) : ∀ j, (upL m i sl j).length = sl.length
  | 0 => rfl
  | j + 1 => by simp only [upL, List.length_set, upL_len m i sl j]
end Go.Proofs.YtgdilbilhajgaaaDoor
