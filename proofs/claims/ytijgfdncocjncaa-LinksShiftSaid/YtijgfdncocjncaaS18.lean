/- Needed, of the program: the bookkeeping. -/
import Derived.Test.YtijgfdncocjncaaS17
import Derived.RangeFuncBox
import Derived.Maps.OwnIn
namespace Go.Proofs.Ytijgfdncocjncaa
set_option linter.unusedVariables false
set_option linter.unusedSimpArgs false
open Go Go.RowKit Go.Shelf
attribute [local go_sem] Oper.semAt_some

/-- The end of a body that holds marks and does not panic. -/
def postM (F : Fence) (n : Nat) (P : Program) (fn : Func) (R : Ending → World → Prop) : Exit → Act → World → Prop
  | .panic _, _, _ => False
  | e, a, w => bodyPostM F n P fn R e a w
theorem postM_of {F : Fence} {n : Nat} {P : Program} {fn : Func} {R : Ending → World → Prop} : ∀ e a w, postM F n P fn R e a w → bodyPostM F n P fn R e a w
  | .normal, _, _, h => h
  | .ret, _, _, h => h
  | .exit _, _, _, h => h
  | .goto _, _, _, h => h
  | .outgrown, _, _, h => h
  | .panic _, _, _, h => h.elim
/-- The marks of the loops over functions that have ended. -/
def markOf (D : Nat) : Deferred := { target := .collected D, args := #[] }
def Marks (B : Nat) (Ds : List Nat) (W : World) : Prop := Ds.Nodup ∧ ∀ D ∈ Ds, B ≤ D ∧ W.heap[D]? = some (.deferred (some []))
theorem leavesM_marks {F : Fence} {n : Nat} {P : Program} {fn : Func} {tmps : Array Value} {R : Ending → World → Prop} {B : Nat} : ∀ (Ds : List Nat) (W : World), Marks B Ds W →
    (∀ W', Below B W W' → (∀ k, k ∉ Ds → W'.heap[k]? = W.heap[k]?) → LeavesIn F n P fn tmps R [] .returning W') → LeavesInM F n P fn tmps R (Ds.map markOf) .returning W
  | [], W, _, h => h W (Below.refl _ _) (fun _ _ => rfl)
  | D :: Ds, W, hM, h => by
    obtain ⟨hn, hD⟩ := hM
    rw [List.nodup_cons] at hn
    have h1 := hD D (by simp)
    refine ⟨by simp, .inl ⟨D, _, rfl, run_takeDeferred h1.2, ?_⟩⟩
    refine leavesM_marks Ds _ ⟨hn.2, fun D' hD' => ⟨(hD D' (by simp [hD'])).1, ?_⟩⟩ ?_
    · rw [World.putObj_heap_other (by rintro rfl; exact hn.1 hD')]
      exact (hD D' (by simp [hD'])).2
    · intro W' hB' hk
      have hb1 : Below B W (W.putObj D (.deferred none)) := (Below.refl B W).grown (grownBy_putObj' W D _) (by have := (Array.getElem?_eq_some_iff.1 h1.2).1; omega) (fun k e => by cases e; exact h1.1)
      refine h W' (hb1.trans hB') fun k hk' => ?_
      rw [List.mem_cons, not_or] at hk'
      rw [hk k hk'.2, World.putObj_heap_other (by omega)]
theorem Marks.keep {B : Nat} {Ds : List Nat} {W W' : World} (h : Marks B Ds W) (hk : ∀ D ∈ Ds, W'.heap[D]? = W.heap[D]?) : Marks B Ds W' := ⟨h.1, fun D hD => ⟨(h.2 D hD).1, (hk D hD).trans (h.2 D hD).2⟩⟩
theorem Marks.lt {B : Nat} {Ds : List Nat} {W : World} (h : Marks B Ds W) : ∀ D ∈ Ds, D < W.heap.size := fun D hD => (Array.getElem?_eq_some_iff.1 (h.2 D hD).2).1
theorem Marks.call {B : Nat} {Ds : List Nat} {W W' : World} (h : Marks B Ds W) (hB : Below W.heap.size W W') : Marks B Ds W' := h.keep fun D hD => hB.block D (h.lt D hD)
/-- What an own row keeps while other blocks turn. -/
theorem own_frm {w w' : World} {base n : Nat} {e : TypeId} {size : Nat} {v : Value} {xs : List Value} {N : Nat} {S : Nat → Prop} (h : w.ownsRow base e size v n xs) (hF : Frm N S w w') (hN : w.heap.size ≤ N) (hS : ∀ k, v.ownBlock = some k → ¬ S k) : w'.ownsRow base e size v n xs :=
  own_at h fun g e => hF.block g (by have := (h.lt g e).2; omega) (hS g e)
theorem boxed_frm {W W' : World} {B : Nat} {t : TypeId} {v : Value} {N : Nat} {S : Nat → Prop} (h : Boxed W B t v) (hF : Frm N S W W') (hN : B < N) (hS : ¬ S B) : Boxed W' B t v := (hF.block B hN hS).trans h
theorem marks_row {B base n size : Nat} {Ds : List Nat} {W : World} {e : TypeId} {v : Value} {xs : List Value} (hM : Marks B Ds W) (h : W.ownsRow base e size v n xs) : ∀ D ∈ Ds, v.ownBlock ≠ some D := fun D hD e => by
  rcases h.2 with ⟨rfl, _⟩ | ⟨g, cap, cur, rfl, _, hgb, _⟩
  · simp [Value.ownBlock] at e
  · obtain rfl : g = D := by simpa [Value.ownBlock] using e
    rw [(hM.2 g hD).2] at hgb
    cases hgb
theorem marks_box {B b : Nat} {Ds : List Nat} {W : World} {t : TypeId} {v : Value} (hM : Marks B Ds W) (h : Boxed W b t v) : ∀ D ∈ Ds, D ≠ b := fun D hD e => by
  subst e
  have h1 := (hM.2 D hD).2
  rw [show W.heap[D]? = _ from h] at h1
  cases h1
/-- What is left of what one source explains, behind some others. -/
def onlyQ (x : Wat) (t f : Nat) (pre : List (Fin (srcs x t).length)) (i : Nat) : Bool := (needP x t i && expP x f t i) && !pre.any fun y => (srcs x t)[y] != f && expP x (srcs x t)[y] t i
theorem onlyQ_nil (x : Wat) (t f : Nat) : setN (needP x t) &&& setN (expP x f t) = setN (onlyQ x t f []) := by
  rw [setN_and]
  exact setN_congr fun i _ => by simp [onlyQ]
theorem onlyQ_snoc (x : Wat) (t f : Nat) (pre : List (Fin (srcs x t).length)) (y : Fin (srcs x t).length) : setN (onlyQ x t f (pre ++ [y])) = if (srcs x t)[y] != f then setN (onlyQ x t f pre) &&& (18446744073709551615 - setN (expP x (srcs x t)[y] t)) else setN (onlyQ x t f pre) := by
  split
  · rename_i h
    rw [setN_not]
    refine setN_congr fun i _ => ?_
    unfold onlyQ
    rw [List.any_append]
    simp only [List.any_cons, List.any_nil, Bool.or_false, h, Bool.true_and]
    cases (needP x t i && expP x f t i) <;> cases (pre.any fun y => (srcs x t)[y] != f && expP x (srcs x t)[y] t i) <;> rfl
  · rename_i h
    refine setN_congr fun i _ => ?_
    unfold onlyQ
    rw [List.any_append]
    simp only [List.any_cons, List.any_nil, Bool.or_false, bool_false h, Bool.false_and]
theorem onlyQ_all (x : Wat) (t f : Nat) : setN (onlyQ x t f (List.finRange (srcs x t).length)) = setN (onlyP x t f) := setN_congr fun i _ => by
  unfold onlyQ onlyP
  rw [any_fin (srcs x t) fun g => g != f && expP x g t i, List.any_filter]
/-- Those of the first sources that are needed. -/
def nedQ (x : Wat) (t : Nat) (pre : List (Fin (srcs x t).length)) : List Nat := (pre.map fun y => (srcs x t)[y]).filter fun f => decide (setN (onlyP x t f) ≠ 0)
theorem nedQ_snoc (x : Wat) (t : Nat) (pre : List (Fin (srcs x t).length)) (y : Fin (srcs x t).length) : nedQ x t (pre ++ [y]) = nedQ x t pre ++ if setN (onlyP x t (srcs x t)[y]) = 0 then [] else [(srcs x t)[y]] := by
  unfold nedQ
  rw [List.map_append, List.filter_append]
  congr 1
  show List.filter (fun f => decide (setN (onlyP x t f) ≠ 0)) [(srcs x t)[y]] = _
  generalize (srcs x t)[y] = f
  by_cases h : setN (onlyP x t f) = 0 <;> simp [h]
theorem nedQ_len (x : Wat) (t : Nat) (pre : List (Fin (srcs x t).length)) : (nedQ x t pre).length ≤ pre.length := by
  unfold nedQ
  have := List.length_filter_le (fun f => decide (setN (onlyP x t f) ≠ 0)) (pre.map fun y => (srcs x t)[y])
  simpa using this
theorem nedQ_all {x : Wat} (hm : x.m ≤ 64) (t : Nat) (he : enB x t (srcs x t) = true) : nedQ x t (List.finRange (srcs x t).length) = nedT x t := by
  unfold nedQ nedT
  have e : (List.finRange (srcs x t).length).map (fun y => (srcs x t)[y]) = srcs x t := by
    apply List.ext_getElem
    · simp
    · intro i h1 h2; simp
  rw [e]
  exact List.filter_congr fun f hf => (mem_nedT hm he hf).symm
theorem nedTo_ok (x : Wat) : ∀ (k : Nat) (o : List (Int × Int)), k ≤ 6 → x.n ≤ 6 → nedTo x k = some o → o.length ≤ 6 * k ∧ o.Pairwise leR ∧ ∀ p ∈ o, p.2 < (k : Int)
  | 0, o, _, _, h => by
    simp only [nedTo, Option.some.injEq] at h
    subst h
    exact ⟨by simp, .nil, fun p h => by simp at h⟩
  | k + 1, o, hk, hn, h => by
    unfold nedTo at h
    cases h1 : nedTo x k with
    | none => rw [h1] at h; simp at h
    | some o1 =>
      rw [h1] at h
      simp only at h
      split at h
      · simp only [Option.some.injEq] at h
        subst h
        obtain ⟨a1, a2, a3⟩ := nedTo_ok x k o1 (by omega) hn h1
        have hs : (nedT x k).Sublist (srcs x k) := List.filter_sublist
        have hl := hs.length_le
        have hl2 := srcs_len x k
        refine ⟨by rw [List.length_append, lnk_len]; omega, ?_, ?_⟩
        · rw [List.pairwise_append]
          refine ⟨a2, lnk_pair ((srcs_sorted x k).sublist hs), fun p hp q hq => .inl ?_⟩
          rw [mem_lnk hq]
          exact a3 p hp
        · intro p hp
          rcases List.mem_append.1 hp with h | h
          · have := a3 p h; omega
          · rw [mem_lnk h]; omega
      · cases h
theorem nedTo_none (x : Wat) {k : Nat} (h : nedTo x k = none) : ∀ j, k ≤ j → nedTo x j = none
  | 0, hj => by obtain rfl : k = 0 := by omega
                exact h
  | j + 1, hj => by
    rcases Nat.lt_or_ge k (j + 1) with h1 | h1
    · unfold nedTo
      rw [nedTo_none x h j (by omega)]
    · obtain rfl : k = j + 1 := by omega
      exact h
end Go.Proofs.Ytijgfdncocjncaa
