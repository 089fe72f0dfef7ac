/- A row of one's own, and ints that came in appended to it, however many. -/
import Derived.Test.YtilmlgngnbokfaaBx
import Derived.Deep.Upon
namespace Go.Proofs.Ytilmlgngnbokfaa
set_option linter.unusedVariables false
set_option linter.unusedSimpArgs false
open Go Go.RowKit
section
variable {F : Fence} {n : Nat} {P : Program} {Q : Exit → Act → World → Prop}
theorem opIn_append_ints (hro : F.round = none) (w : World) {o : Oper} {a : Act} {K : Act → World → Prop} (s x : Operand) (t : TypeId)
    (ho : o.op = .call { callee := .builtin .append, args := #[s, x], argTypes := #[t, t] })
    (base : Nat) (e : TypeId) (i : TypeInfo) (bytes : Nat) (ht : P.underlying t = some (.slice e)) (hi : P.info? e = some i) (hz : i.zero = some (.int .i64 0))
    (hsize : i.size = 1) (hby : i.bytes = bytes)
    (v : Value) (k : Nat) (xs : List Value) (hs : a.eval s = v) (hown : w.ownsRow base e 1 v k xs)
    (A : Option Addr) (c : Nat) (ys : List Int) (hx : a.eval x = .slice A ys.length c) (hI : Ints w w.heap.size A ys)
    (h63 : k + ys.length ≤ maxLen) (hbytes : (k + ys.length) * bytes ≤ 140737488355328) (hbase : base ≤ w.heap.size)
    (h : ∀ v' w', w'.ownsRow base e 1 v' (k + ys.length) (xs ++ ys.map I) → w.grownBy w' v.ownBlock → K (a.put o.dst v') w') : o.wpIn F n P a w K Q := by
  rcases Nat.eq_zero_or_pos ys.length with h0 | h0
  · obtain rfl : ys = [] := List.eq_nil_of_length_eq_zero h0
    have hsrc : Src P i.size t (.slice A 0 c) 0 [] w := by
      cases A with
      | none => exact Src.ofNil w ht c
      | some ad => exact Src.ofSlice w ht ad 0 c [] (by simp) (fun j u h => by simp at h) (fun u h => by simp at h)
    obtain ⟨b, m, hv, hle⟩ : ∃ b m, v = .slice b k m ∧ k ≤ m := by
      rcases own_form hown with ⟨h1, h2⟩ | ⟨g, cap, h1, _, _, h4, _⟩
      · exact ⟨none, 0, by rw [h1, h2], by omega⟩
      · exact ⟨_, _, h1, h4⟩
    have hr := run_append_nothing (P := P) w t t o.type e i ht hi b k m hle _ hsrc
    rw [← hv] at hr
    unfold Oper.wpIn
    refine ⟨?_, ?_⟩
    · simp [Oper.about, ho, resolve, Target.leads, Sem.run_pure]
    · rw [hro, Oper.semAt_none]
      simp only [List.length_nil] at hx
      simp only [execOp, ho, resolve, invoke, builtin, Sem.run_bind, Sem.run_pure, Result.andThen_ok, List.map_toArray, List.map_cons, List.map_nil, hs, hx, hr]
      exact h v w (by simpa using hown) ⟨rfl, rfl, rfl, Nat.le_refl _, fun _ _ _ => rfl⟩
  · obtain ⟨b, off, rfl, hb, hc⟩ := hI h0
    exact opIn_append_own hro w s x t ho base e i _ 1 bytes ht hi hz hsize hby rfl (by decide) v k xs hs hown ⟨b, off, none⟩ ys.length c (ys.map I) hx (by simp) (fun j u hj => by
      rw [Addr.add_lit]
      rw [List.getElem?_map] at hj
      obtain ⟨y, hy, rfl⟩ := Option.map_eq_some_iff.1 hj
      obtain ⟨hj', rfl⟩ := List.getElem?_eq_some_iff.1 hy
      exact hc j hj') (fun u hu => by obtain ⟨s, _, rfl⟩ := List.mem_map.1 hu; rfl) h63 hbytes hbase (fun v' w' h1 h2 _ => h v' w' h1 h2)
end
end Go.Proofs.Ytilmlgngnbokfaa
