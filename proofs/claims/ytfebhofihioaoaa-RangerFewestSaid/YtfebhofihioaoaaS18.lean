/- The iterator over the runs. -/
import Derived.Test.YtfebhofihioaoaaS17
import Derived.RangeFuncNested
import Derived.RangeFuncBound
import Derived.RangeFuncCalls
import Derived.RangeFuncLeaves
import Derived.Shelf.Abstract
import Derived.OwnWalkIn
import Derived.TacticsInMore
import Derived.LoopNIn
import Derived.LoopIn
namespace Go.Proofs.Ytfebhofihioaoaa
set_option linter.unusedVariables false
set_option linter.unusedSimpArgs false
open Go Go.RowKit Go.Shelf

attribute [local go_sem] Oper.semAt_some

def uptoF (N k : Nat) : List (Fin N) := (List.finRange N).take k
theorem uptoF_len {N k : Nat} (h : k ≤ N) : (uptoF N k).length = k := by simp [uptoF]; omega
theorem uptoF_succ {N k : Nat} (h : k < N) : uptoF N (k + 1) = uptoF N k ++ [⟨k, h⟩] := by
  unfold uptoF
  rw [List.take_succ_eq_append_getElem (by simpa using h)]
  simp
theorem uptoF_all (N : Nat) : uptoF N N = List.finRange N := by
  unfold uptoF
  rw [List.take_of_length_le (by simp)]
def encP (l : List (Int × Int)) (x : Fin l.length) : Value := .agg #[I l[x].1, I l[x].2]

set_option maxRecDepth 100000 in
set_option maxHeartbeats 1000000 in
theorem values60_in (F : Fence) (n : Nat) (h60 : F.fn 60) (hro : F.round = none) (hn : 1 ≤ n) (lp Bs n₀ : Nat) (S0 : Nat → Prop) (A : Option Addr) (c : Nat) (l : List (Int × Int)) (hN : l.length ≤ 100000) (z1 : Bs < n₀ ∧ ¬ S0 Bs)
    (J Jx : List (Fin l.length) → World → Prop)
    (hY : ∀ pre x W, J pre W → pre.length < l.length → YieldAt F (n - 1) Try.prog lp #[encP l x] W fun e W' =>
      (e = .returned (.bool true) ∧ J (pre ++ [x]) W' ∧ Frm n₀ S0 W W') ∨ (e = .returned (.bool false) ∧ Jx (pre ++ [x]) W'))
    (hJ : ∀ pre W o, n₀ ≤ W.heap.size → J pre W → J pre (W.alloc o))
    (W : World) (hz : n₀ ≤ W.heap.size) (c0 : W.cell? ⟨Bs, 0, none⟩ = some (.slice A l.length c)) (hL : 0 < l.length → ∃ b off, A = some ⟨b, off, none⟩ ∧ b < n₀ ∧ ¬ S0 b ∧ ∀ k (h : k < l.length), W.cell? ⟨b, off + k * 2, none⟩ = some (I l[k].1) ∧ W.cell? ⟨b, off + k * 2 + 1, none⟩ = some (I l[k].2)) (h0 : J [] W) :
    CallsIn F n Try.prog 60 #[.func (.yield lp) #[] #[], .pointer (some ⟨Bs, 0, none⟩)] W fun e W' => (∃ v, e = .returned v) ∧
      ((∃ ys, ys = List.finRange l.length ∧ J ys W') ∨ (∃ pre : List (Fin l.length), True ∧ Jx pre W')) := by
  have HY := Lib.hid hY
  have HL := Lib.hid hL
  have HJ := Lib.hid hJ
  obtain ⟨N, hNe⟩ : ∃ N, N = l.length := ⟨_, rfl⟩
  clear hY hL hJ
  refine callsIn_of_wp Try.func60 rfl h60 ?_ hro
  simp only [Try.ntmps60, List.size_toArray, List.length_cons, List.length_nil, Nat.reduceAdd, Nat.reduceSub, Array.replicate_succ, Array.replicate_zero, List.push_toArray, List.append_toArray, List.nil_append, List.cons_append]
  gi_wp2
  gi_loopw [7] (fun p wr => ∃ k : Nat, k ≤ l.length ∧ p = I k ∧ J (uptoF l.length k) wr ∧ Frm n₀ S0 W wr)
    (fun p wr => l.length - (intOf p).toNat)
  case atStart =>
    exact ⟨0, Nat.zero_le _, rfl, h0, Frm.refl _ _ _⟩
  case round =>
    obtain ⟨k, hk, rfl, hJ, hF⟩ := hrel
    by_cases hlt : k < l.length
    · obtain ⟨b, off, rfl, hb, hbs, hcs⟩ := HL.out (by omega)
      obtain ⟨x0, x1⟩ := hcs k hlt
      have y0 := (hF.cell hb hbs).trans x0
      have y1 := (hF.cell hb hbs).trans x1
      have d0 := (hF.cell z1.1 z1.2).trans c0
      have hzr := hF.size
      have hJ2 := HJ.out _ wr (.cells #[I l[k].1, I l[k].2] 87) (by omega) hJ
      obtain ⟨fn, tmps, assign, body, hy, hR⟩ := HY.out (uptoF l.length k) ⟨k, hlt⟩ _ hJ2 (by rw [uptoF_len hk]; exact hlt)
      have hF2 : Frm n₀ S0 W (wr.alloc (.cells #[I l[k].1, I l[k].2] 87)) := hF.alloc (by omega) _
      have HR := Lib.hid hR
      have HJ3 := Lib.hid hJ2
      clear hJ2 hR x0 x1 hcs
      dsimp only [encP, Fin.getElem_fin] at hy HR
      generalize l[k].1 = v0 at *
      generalize l[k].2 = v1 at *
      have p0 : (0 : Int) ≤ (k : Int) := by omega
      have p1 : (k : Int) < (l.length : Int) := by omega
      gi_wp2
      refine HR.out.mono ?_
      rintro e W3 (⟨rfl, hJ3, hk3⟩ | ⟨rfl, hJx3⟩)
      · gi_wp2
        go_roundw
        case rel => exact ⟨k + 1, by omega, by go_num, by rw [uptoF_succ hlt]; exact hJ3, hF2.trans hk3⟩
        case measure => simp [intOf]; omega
      · gi_wp2
        refine bodyPost_ret (results_none rfl _ _ _) rfl ?_
        exact ⟨⟨_, rfl⟩, .inr ⟨_, trivial, hJx3⟩⟩
    · gi_wp2
      go_end0
      obtain rfl : k = l.length := by omega
      exact ⟨⟨_, rfl⟩, .inl ⟨_, uptoF_all _, hJ⟩⟩
/-- The iterator that 'runs' hands back. -/
theorem values_stops (F : Fence) (n : Nat) (h60 : F.fn 60) (hro : F.round = none) (hn : 1 ≤ n) (Bs n₀ : Nat) (S0 : Nat → Prop) (A : Option Addr) (c : Nat) (l : List (Int × Int)) (hN : l.length ≤ 100000) (w : World) (z1 : Bs < n₀ ∧ ¬ S0 Bs) (hz : n₀ ≤ w.heap.size)
    (c0 : w.cell? ⟨Bs, 0, none⟩ = some (.slice A l.length c)) (hL : Twos w n₀ A l) (hS : ∀ b off, A = some ⟨b, off, none⟩ → ¬ S0 b) :
    SeqStopsK F n Try.prog 60 #[.pointer (some ⟨Bs, 0, none⟩)] (fun x : Fin l.length => #[encP l x]) (Frm n₀ S0) (fun ys => ys = List.finRange l.length) (fun _ => True) l.length w := fun lp J Jx W hW hJ _ hY h0 =>
  values60_in F n h60 hro hn lp Bs n₀ S0 A c l hN z1 J Jx hY (fun pre W' o _ h => hJ pre W' _ none h (World.grownBy_alloc W' o none) (fun r e => by cases e)) W (by have := hW.size; omega)
    ((hW.cell (p := ⟨Bs, 0, none⟩) (show Bs < _ by omega)).trans c0) (fun h => by
      obtain ⟨b, off, h1, h2, h3⟩ := hL h
      exact ⟨b, off, h1, h2, hS b off h1, fun k hk => ⟨(hW.cell (p := ⟨b, _, none⟩) (show b < _ by omega)).trans (h3 k hk).1, (hW.cell (p := ⟨b, _, none⟩) (show b < _ by omega)).trans (h3 k hk).2⟩⟩) h0
theorem frmK_t {n₀ : Nat} {S0 : Nat → Prop} {A B C : World} (h : Frm n₀ S0 A B) (k : Frm n₀ S0 B C) : Frm n₀ S0 A C := h.trans k
theorem frmK_b {n₀ : Nat} {S0 : Nat → Prop} {w : World} (hn : n₀ ≤ w.heap.size) (W : World) (l : Nat) (o o' : Obj) (hl : w.heap.size ≤ l) (h : W.heap[l]? = some o) (_ : o.isCells = false) (_ : o.isWalk = false) : Frm n₀ S0 W (W.putObj l o') :=
  (Frm.refl _ _ W).grown (grownBy_putObj' W l o') (by have := (Array.getElem?_eq_some_iff.1 h).1; omega) (fun k e => by cases e; exact .inl (by omega))
theorem calls_marks {P : Program} {f : FuncId} {fn : Func} {c : Code} {args : Array Value} {w : World} {R : Ending → World → Prop} (hf : P.funcs[f]? = some fn) (hb : fn.body = some c)
    (h : c.wp P (bodyPostM Fence.wide 9 P fn R) { tmps := args ++ Array.replicate (fn.ntmps - args.size) undef, defers := [] } w) : Calls P f args w R :=
  callsIn_wide.1 (callsIn_of_wp_marks (F := Fence.wide) (n := 9) hf hb trivial (wpIn_wide.2 h) rfl)
theorem wp_cutN {P : Program} {s : Code} {K : Act → World → Prop} {Q' : Exit → Act → World → Prop} {a : Act} {w : World} (R : Act → World → Prop) (first : s.wp P (fun e a' w' => e = .normal ∧ R a' w') a w) (rest : ∀ a' w', R a' w' → K a' w') : s.wp P (Exit.then K Q') a w :=
  wp_mono first fun e a' w' h => by obtain ⟨rfl, h⟩ := h; exact rest _ _ h
/-- What is left, and what is taken, behind some runs. -/
def gst (l : List (Int × Int)) (s0 : Int × Int) (pre : List (Fin l.length)) : Int × Int :=
  pre.foldl (fun s x => (s.1 - min l[x].2 (s.1 / l[x].1) * l[x].1, s.2 + min l[x].2 (s.1 / l[x].1))) s0
theorem gst_snoc (l : List (Int × Int)) (s0 : Int × Int) (pre : List (Fin l.length)) (x : Fin l.length) :
    gst l s0 (pre ++ [x]) = ((gst l s0 pre).1 - min l[x].2 ((gst l s0 pre).1 / l[x].1) * l[x].1, (gst l s0 pre).2 + min l[x].2 ((gst l s0 pre).1 / l[x].1)) := by
  simp [gst]
theorem gst_step {s left a b : Int} (h0 : 0 ≤ left) (ha : 1 ≤ a) (hb : 0 ≤ b) : 0 ≤ min b (left / a) ∧ min b (left / a) * a ≤ left ∧ min b (left / a) ≤ left ∧ min b (left / a) ≤ min b (left / a) * a := by
  have h1 : 0 ≤ left / a := Int.ediv_nonneg h0 (by omega)
  have h2 : left / a * a ≤ left := Int.ediv_mul_le left (by omega)
  have h3 : 0 ≤ min b (left / a) := by omega
  have h4 : min b (left / a) * a ≤ left / a * a := Int.mul_le_mul_of_nonneg_right (by omega) (by omega)
  have h5 : min b (left / a) * 1 ≤ min b (left / a) * a := Int.mul_le_mul_of_nonneg_left (by omega) h3
  omega
theorem gst_bd (l : List (Int × Int)) (hl : ∀ r ∈ l, 1 ≤ r.1 ∧ 0 ≤ r.2) (s0 : Int × Int) (h0 : 0 ≤ s0.1) (h1 : 0 ≤ s0.2) : ∀ pre : List (Fin l.length), 0 ≤ (gst l s0 pre).1 ∧ (gst l s0 pre).1 ≤ s0.1 ∧ 0 ≤ (gst l s0 pre).2 ∧ (gst l s0 pre).2 ≤ s0.2 + s0.1 - (gst l s0 pre).1 := by
  suffices h : ∀ (N : Nat) (pre : List (Fin l.length)), pre.length = N → 0 ≤ (gst l s0 pre).1 ∧ (gst l s0 pre).1 ≤ s0.1 ∧ 0 ≤ (gst l s0 pre).2 ∧ (gst l s0 pre).2 ≤ s0.2 + s0.1 - (gst l s0 pre).1 from fun pre => h _ pre rfl
  intro N
  induction N with
  | zero => intro pre hp; obtain rfl := List.eq_nil_of_length_eq_zero hp; simp [gst]; omega
  | succ N ih =>
    intro pre hp
    obtain ⟨q, x, rfl⟩ : ∃ q x, pre = q ++ [x] := by
      have hne : pre ≠ [] := fun e => by rw [e] at hp; cases hp
      exact ⟨pre.dropLast, pre.getLast hne, (List.dropLast_concat_getLast hne).symm⟩
    have := ih q (by simpa using hp)
    rw [gst_snoc]
    obtain ⟨r1, r2⟩ := hl l[x] (List.getElem_mem _)
    have h5 := gst_step (s := 0) this.1 r1 r2
    simp only
    omega
theorem foldl_greed : ∀ (l : List (Int × Int)) (s0 : Int × Int), (l.foldl (fun s r => (s.1 - min r.2 (s.1 / r.1) * r.1, s.2 + min r.2 (s.1 / r.1))) s0).2 = s0.2 + greed l s0.1
  | [], s0 => by simp [greed]
  | r :: l, s0 => by
    rw [List.foldl_cons, foldl_greed l]
    simp only [greed]
    omega
theorem gst_all (l : List (Int × Int)) (s0 : Int × Int) : (gst l s0 (List.finRange l.length)).2 = s0.2 + greed l s0.1 := by
  rw [← foldl_greed]
  have e : l = (List.finRange l.length).map fun x => l[x] := by
    apply List.ext_getElem
    · simp
    · intro i h1 h2; simp
  have h2 : ∀ (xs : List (Fin l.length)) (s : Int × Int), (xs.map fun x => l[x]).foldl (fun s r => (s.1 - min r.2 (s.1 / r.1) * r.1, s.2 + min r.2 (s.1 / r.1))) s = gst l s xs := fun xs => by
    induction xs with
    | nil => intro s; rfl
    | cons x xs ih => intro s; rw [List.map_cons, List.foldl_cons, ih]; rfl
  rw [← h2, ← e]
end Go.Proofs.Ytfebhofihioaoaa
