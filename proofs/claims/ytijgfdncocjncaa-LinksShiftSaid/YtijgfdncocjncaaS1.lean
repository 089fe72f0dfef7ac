/- Is a watch valid? Of the program. -/
import Derived.Test.YtijgfdncocjncaaE1
import Derived.Maps.OwnSet
import Derived.DeepKeys4
namespace Go.Proofs.Ytijgfdncocjncaa
set_option linter.unusedVariables false
set_option linter.unusedSimpArgs false
open Go Go.RowKit

theorem seat_laid : laidOutB Try.prog = true := by kernel_rfl
theorem seat_own : ownKnob Try.prog.godebug = none := by kernel_rfl
theorem wp_norm {P : Program} {s : Code} {Q : Exit → Act → World → Prop} {a : Act} {w : World} (h : s.wp P (fun e a' w' => e = .normal ∧ Q .normal a' w') a w) : s.wp P Q a w :=
  wp_mono h fun e a' w' h => by obtain ⟨rfl, h⟩ := h; exact h
theorem own_formS {w : World} {base n : Nat} {e : TypeId} {v : Value} {xs : List Value} {size : Nat} (h : w.ownsRow base e size v n xs) :
    (v = .slice none 0 0 ∧ n = 0) ∨ ∃ g cap, v = .slice (some ⟨g, 0, none⟩) n cap ∧ base ≤ g ∧ g < w.heap.size := by
  rcases h.2 with h1 | ⟨g, cap, cur, rfl, hb, hc, h3, h4, _⟩
  · exact .inl ⟨h1.1, h1.2⟩
  · exact .inr ⟨g, cap, rfl, (h.lt g rfl).1, (h.lt g rfl).2⟩
theorem cells5 (w : World) (a b c d f : Value) (t : TypeId) : ∀ j u, [a, b, c, d, f][j]? = some u → (w.alloc (.cells #[a, b, c, d, f] t)).cell? ((⟨w.heap.size, 0, none⟩ : Addr).add j) = some u := fun j u hj => by
  rcases j with _ | _ | _ | _ | _ | j
  all_goals (simp at hj; try (subst hj; simp [Addr.add, go_sem]))
def In64 (z : Int) : Prop := -9223372036854775808 ≤ z ∧ z ≤ 9223372036854775807
theorem wf_of64 {z : Int} (h : In64 z) : (Lit.int .i64 z).wf = true := by
  unfold In64 at h
  simpa [Lit.wf, IntKind.min, IntKind.max, IntKind.signed, IntKind.bits] using h
/-- All numbers of a watch are of 64 bits. -/
structure Wat64 (x : Wat) : Prop where
  en : In64 x.en
  hb : ∀ k (h : k < x.hb.length), In64 x.hb[k].1 ∧ In64 x.hb[k].2.1 ∧ In64 x.hb[k].2.2.1 ∧ In64 x.hb[k].2.2.2
  er : ∀ k (h : k < x.er.length), In64 x.er[k].1 ∧ In64 x.er[k].2
  hlen : x.hb.length ≤ 9223372036854775807
  elen : x.er.length ≤ 9223372036854775807
def Wat.val (x : Wat) (A : Option Addr) (c : Nat) (B : Option Addr) (d : Nat) : Value := .agg #[.slice A x.hb.length c, .slice B x.er.length d, I x.en]
/-- A watch that lies below. -/
structure WatAt (W : World) (x : Wat) (A B : Option Addr) : Prop where
  hb : Fours W W.heap.size A x.hb
  er : Twos W W.heap.size B x.er
theorem WatAt.below {W W' : World} {x : Wat} {A B : Option Addr} (h : WatAt W x A B) (hB : Below W.heap.size W W') : WatAt W' x A B := ⟨(h.hb.below hB).more hB.size, (h.er.below hB).more hB.size⟩
theorem wide50 : (match Try.prog.underlying 50 with | some (.array _ _) | some (.struct _) => true | _ => false) = true := by rw [Try.underlying50]
set_option maxRecDepth 100000 in
theorem lawE : Maps.Keyed Try.prog 50 := Maps.Keyed.of_law (deep_law_laid seat_laid (m := 2) (by omega) (of_decide_eq_true (by kernel_rfl)) (by kernel_rfl) wide50)
def keyL (e : Int × Int) : Lit := .string (keyBytes [.int .i64 e.1, .int .i64 e.2])
set_option maxRecDepth 100000 in
theorem keyE {e : Int × Int} (h1 : In64 e.1) (h2 : In64 e.2) : keyOf Try.prog 50 (.agg #[I e.1, I e.2]) = some (keyL e) := by
  have hs : Try.prog.types.size = Try.prog.types.size := rfl
  have kt : Try.prog.keyType 50 = true := by kernel_rfl
  have hc : Try.prog.cellsOf 50 = 2 := by kernel_rfl
  have hc3 : Try.prog.cellsOf 3 = 1 := by kernel_rfl
  have hf : (Value.agg #[I e.1, I e.2]).formed Try.prog 50 = true := by simp [Value.formed, Try.underlying50, hc]
  have h3 : ∀ (n : Nat) (z : Int), In64 z → Try.prog.keyLits (n + 1) 3 [I z] = some [.int .i64 z] := fun n z hz => by
    simp [Program.keyLits, Try.underlying3, wf_of64 hz]
  have hk : ∀ n : Nat, Try.prog.keyLits (n + 2) 50 [I e.1, I e.2] = some [.int .i64 e.1, .int .i64 e.2] := fun n => by
    unfold Program.keyLits
    simp only [Try.underlying50]
    simp [hc, hc3, h3 n _ h1, h3 n _ h2]
  unfold keyOf
  rw [Try.underlying50]
  simp only [kt, hf, Bool.and_self, if_true]
  obtain ⟨n, hn⟩ : ∃ n, Try.prog.types.size + 1 = n + 2 := ⟨Try.prog.types.size - 1, by have : 0 < Try.prog.types.size := of_decide_eq_true (by kernel_rfl); omega⟩
  rw [hn]
  have e1 : (Value.agg #[I e.1, I e.2]).cells.toList = [I e.1, I e.2] := rfl
  rw [e1, hk]
  rfl
theorem keyL_inj {a b : Int × Int} (ha : In64 a.1 ∧ In64 a.2) (hb : In64 b.1 ∧ In64 b.2) (h : keyL a = keyL b) : a = b := by
  have h1 := keyE ha.1 ha.2
  have h2 := keyE hb.1 hb.2
  rw [h] at h1
  have := lawE.inj h1 h2
  simp at this
  exact Prod.ext this.1 this.2
/-- What was seen, as the map reads. -/
def seenD (l : List (Int × Int)) : DataW Unit := Maps.setOf (.lit (.bool true)) (l.map keyL)
theorem seenD_snoc (l : List (Int × Int)) (e : Int × Int) : seenD (l ++ [e]) = (seenD l).put (keyL e) (.lit (.bool true)) := by
  unfold seenD
  rw [List.map_append, List.map_cons, List.map_nil, Maps.setOf_snoc]
theorem isKey (e : Int × Int) : WideAt.IsKeyLit (keyL e) := by unfold keyL; trivial
theorem seenD_at (l : List (Int × Int)) (e : Int × Int) (he : In64 e.1 ∧ In64 e.2) : (∀ a ∈ l, In64 a.1 ∧ In64 a.2) → (seenD l).atKey (keyL e) (.lit (.bool false)) = .lit (.bool (l.any fun a => a == e)) := by
  suffices h : ∀ (n : Nat) (l : List (Int × Int)), l.length = n → (∀ a ∈ l, In64 a.1 ∧ In64 a.2) → (seenD l).atKey (keyL e) (.lit (.bool false)) = .lit (.bool (l.any fun a => a == e)) from h _ l rfl
  intro n
  induction n with
  | zero =>
    intro l hl _
    obtain rfl := List.eq_nil_of_length_eq_zero hl
    rfl
  | succ n ih =>
    intro l hl hin
    obtain ⟨q, a, rfl⟩ : ∃ q a, l = q ++ [a] := by
      have hne : l ≠ [] := fun e => by rw [e] at hl; cases hl
      exact ⟨l.dropLast, l.getLast hne, (List.dropLast_concat_getLast hne).symm⟩
    have h1 := ih q (by simpa using hl) fun b hb => hin b (by simp [hb])
    have ha := hin a (by simp)
    have htidy : Maps.IsMap (seenD q) := (Maps.tidy_setOf _ _ fun x hx => by
      obtain ⟨b, _, rfl⟩ := List.mem_map.1 hx
      exact isKey b).isMap
    rw [seenD_snoc, List.any_append]
    by_cases e1 : a = e
    · subst e1
      rw [Maps.atKey_put_same htidy (isKey a)]
      simp
    · rw [Maps.atKey_put_other (fun h => e1 (keyL_inj ha he h.symm)), h1]
      simp [e1]
theorem zeroB (w : World) : (zeroValue 4).run Try.prog w = .ok (.bool false) w := by kernel_rfl
theorem u86 : Try.prog.underlying 86 = some (.map 50 4) := Try.underlying86
set_option maxRecDepth 100000 in
theorem plainElem_bool_inv {v : Value} {z : DataW Unit × List MemPlace} (h : plainElem Try.prog 4 v = some z) : ∃ b, v = .bool b ∧ z = (.lit (.bool b), []) := by
  unfold plainElem at h
  rw [Try.underlying4] at h
  cases v <;> simp at h
  exact ⟨_, rfl, h.symm⟩
set_option maxRecDepth 100000 in
theorem look_seen {W : World} {Mb n : Nat} {l : List (Int × Int)} {e : Int × Int} (h : W.ownsMap Try.prog 50 (plainElem Try.prog 4) Mb n (seenD l)) (he : In64 e.1 ∧ In64 e.2) (hl : ∀ a ∈ l, In64 a.1 ∧ In64 a.2) :
    (Instr.lookup 86 (.map (some Mb)) (.agg #[I e.1, I e.2]) false).run Try.prog W = .ok (.bool (l.any fun a => a == e)) W := by
  obtain ⟨v, ps, hrun, hv⟩ := h.lookup lawE u86 (zeroB W) (plainElem_bool Try.underlying4 false) (keyE he.1 he.2)
  rw [seenD_at l e he hl] at hv
  obtain ⟨b, rfl, hb⟩ := plainElem_bool_inv hv
  simp only [Prod.mk.injEq, DataW.lit.injEq, Lit.bool.injEq] at hb
  rw [hrun, ← hb.1]
section
variable {F : Fence} {n : Nat} {Q : Exit → Act → World → Prop}
theorem opIn_seen (hro : F.round = none) (W : World) {o : Oper} {a : Act} {K : Act → World → Prop} (m x v : Operand) (ho : o.op = .mapUpdate 86 m x v) (Mb k : Nat) (l : List (Int × Int)) (e : Int × Int)
    (hm : a.eval m = .map (some Mb)) (hx : a.eval x = .agg #[I e.1, I e.2]) (hv : a.eval v = .bool true) (hown : W.ownsMap Try.prog 50 (plainElem Try.prog 4) Mb k (seenD l)) (hk : k < maxLen) (he : In64 e.1 ∧ In64 e.2)
    (h : ∀ w', w'.ownsMap Try.prog 50 (plainElem Try.prog 4) Mb (k + 1) (seenD (l ++ [e])) → W.grownBy w' (some Mb) → K (a.put o.dst undef) w') : o.wpIn F n Try.prog a W K Q := by
  obtain ⟨w', hrun, r1, r2⟩ := hown.update lawE u86 hk (keyE he.1 he.2) (plainElem_bool (H := Unit) Try.underlying4 true)
  rw [← seenD_snoc] at r1
  unfold Oper.wpIn
  refine ⟨?_, ?_⟩
  · simp [Oper.about, ho, Sem.run_pure]
  · rw [hro, Oper.semAt_none]
    simp [execOp, ho, hm, hx, hv, hrun, Result.andThen]
    exact h w' r1 r2
end
end Go.Proofs.Ytijgfdncocjncaa
