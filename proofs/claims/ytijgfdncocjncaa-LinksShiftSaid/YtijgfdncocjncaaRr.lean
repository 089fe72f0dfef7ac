/- A region that draws its order, within a round. -/
import Derived.Test.YtijgfdncocjncaaS7
namespace Go.Proofs.Ytijgfdncocjncaa
set_option linter.unusedVariables false
set_option linter.unusedSimpArgs false
open Go

section
variable {F : Fence} {n : Nat} {P : Program} {ops : Array Oper} {Q : Exit → Act → World → Prop} {md : Region.Mode} {l : Nat}
def noDefer (ops : Array Oper) : Bool := ops.all fun o => match o.op with | .defer _ => false | _ => true
theorem noDefer_spec (h : noDefer ops = true) {i : Nat} {o : Oper} (ho : ops[i]? = some o) : ∀ c, o.op ≠ .defer c := fun c e => by
  obtain ⟨hi, rfl⟩ := Array.getElem?_eq_some_iff.1 ho
  have h1 := Array.all_eq_true.1 h i hi
  rw [e] at h1
  cases h1
theorem oper_inRound {o : Oper} {a : Act} {w : World} {K : Act → World → Prop} (hro : F.round = none) (hnd : ∀ c, o.op ≠ .defer c) (h : o.wpIn F n P a w K Q) : o.wpIn (F.inRound l) n P a w K Q := by
  unfold Oper.wpIn at h ⊢
  rw [Oper.semAt_eq _ _ _ hnd] at h ⊢
  refine ⟨h.1, ?_⟩
  have h := h.2
  generalize (execOp a.eval o).run P w = r at *
  exact h
theorem op_inRound (hro : F.round = none) (hnd : noDefer ops = true) {i : Nat} {a : Act} {w : World} {K : Act → World → Prop} (h : wpOpIn F n P ops Q i K a w) : wpOpIn (F.inRound l) n P ops Q i K a w := by
  unfold wpOpIn at h ⊢
  cases ho : ops[i]? with
  | none => rw [ho] at h; exact h
  | some o =>
    rw [ho] at h
    simp only at h ⊢
    split
    · rename_i hw
      rw [if_pos hw] at h
      exact oper_inRound hro (noDefer_spec hnd ho) h
    · rename_i hw
      rw [if_neg hw] at h
      exact h
theorem any_inRound (hro : F.round = none) (hnd : noDefer ops = true) : ∀ (fuel : Nat) (L : Array Bool) (a : Act) (w : World), wpAnyIn F n P md ops Q fuel L a w → wpAnyIn (F.inRound l) n P md ops Q fuel L a w
  | 0, _, _, _, h => h
  | fuel + 1, _, _, _, h => ⟨h.1, fun i hi => op_inRound hro hnd (wpOpIn_mono (fun a' w' h' => any_inRound hro hnd fuel _ a' w' h') (h.2 i hi))⟩
theorem wpIn_region_planR {id : Nat} {a : Act} {w : World} (pl : Plan) (held : List Nat) (C : World → Prop) (cl : List Nat) (hro : F.round = none) (hm : P.follows .mixedOrders = true) (hnd : noDefer ops = true)
    (hB : chkF ops (fun i => cl.contains i) (fun i => held.contains i) pl = true)
    (hQ : ∀ c (d : Option Tmp) (v : Value) a w, Q (.panic c) (a.put d v) w → Q (.panic c) a w) (hC : C w.drew)
    (h : ordQ F n P ops (heavyAt ops) (fun i => cl.contains i) (fun i => held.contains i) C Q pl a w.drew) : (Code.region id ops true).wpIn (F.inRound l) n P Q a w := by
  unfold chkF at hB
  simp only [Bool.and_eq_true, decide_eq_true_eq] at hB
  refine wpIn_region_any hm (any_inRound hro hnd _ _ _ _ ?_)
  have H := wpAnyIn_of_anyP (hv := heavyAt ops) (cl := fun i => cl.contains i) (C := C) _ _ _ _ (anyP_of_plan hro hB.1.1 hQ pl [] (Array.replicate ops.size false) a _ (fun j oj _ hl => by
    rcases Nat.lt_or_ge j ops.size with h' | h'
    · simp [h'] at hl
    · simp [h'] at hl) (fun _ h => by cases h) hB.2 (fun _ => hC) h)
  rw [hB.1.2] at H
  exact H
end
end Go.Proofs.Ytijgfdncocjncaa
