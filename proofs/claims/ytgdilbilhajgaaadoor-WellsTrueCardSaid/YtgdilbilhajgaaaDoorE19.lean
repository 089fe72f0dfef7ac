/- The iterator over a list of least excesses. -/
import Derived.Test.YtgdilbilhajgaaaDoorE18
import Derived.RangeFuncNested
import Derived.RangeFuncBound
import Derived.RangeFuncCalls
import Derived.RangeFuncLeaves
import Derived.Shelf.Abstract
import Derived.Shelf.RegionOpen
import Derived.OwnWalkIn
import Derived.TacticsInMore
import Derived.LoopNIn
import Derived.LoopIn
namespace Go.Proofs.YtgdilbilhajgaaaDoor
set_option linter.unusedVariables false
set_option linter.unusedSimpArgs false
open Go Go.RowKit Go.Shelf

attribute [local go_sem] Oper.semAt_some

def uptoF (N k : Nat) : List (Fin N) := (List.finRange N).take k
theorem uptoF_len {N k : Nat} (h : k ≤ N) : (uptoF N k).length = k := by simp [uptoF]; omega
theorem uptoF_succ {N k : Nat} (h : k < N) : uptoF N (k + 1) = uptoF N k ++ [⟨k, h⟩] := by
  unfold uptoF
  rw [List.take_succ_eq_append_getElem (by simpa using h)]
  simp
theorem uptoF_all {N : Nat} (k : Fin N) : k ∈ uptoF N N := by
  unfold uptoF
  rw [List.take_of_length_le (by simp)]
  simp

set_option maxRecDepth 100000 in
set_option maxHeartbeats 1000000 in
theorem all91_in (F : Fence) (n : Nat) (h91 : F.fn 91) (hro : F.round = none) (hn : 1 ≤ n) (l Bn n₀ S0 b off N c : Nat) (f : Int) (g : Fin N → Int) (hf : 0 ≤ f ∧ f ≤ 100000) (hN : N ≤ 100000) (z1 : Bn < n₀ ∧ Bn ≠ S0) (z2 : b < n₀ ∧ b ≠ S0)
    (J Jx : List (Fin N) → World → Prop)
    (hY : ∀ pre x W, J pre W → pre.length < N → YieldAt F (n - 1) Tryd.prog l #[I (f + (x.1 : Int)), I (g x)] W fun e W' =>
      (e = .returned (.bool true) ∧ J (pre ++ [x]) W' ∧ Frm n₀ (· = S0) W W') ∨ (e = .returned (.bool false) ∧ Jx (pre ++ [x]) W'))
    (W : World) (c0 : W.cell? ⟨Bn, 0, none⟩ = some (I f)) (c1 : W.cell? ⟨Bn, 1, none⟩ = some (.slice (some ⟨b, off, none⟩) N c)) (hL : ∀ x : Fin N, W.cell? ⟨b, off + x.1, none⟩ = some (I (g x))) (h0 : J [] W) :
    CallsIn F n Tryd.prog 91 #[.func (.yield l) #[] #[], .pointer (some ⟨Bn, 0, none⟩)] W fun e W' => (∃ v, e = .returned v) ∧
      ((∃ ys, (∀ k, k ∈ ys) ∧ J ys W') ∨ (∃ pre : List (Fin N), True ∧ Jx pre W')) := by
  have HY := Lib.hid hY
  have HL := Lib.hid hL
  clear hY hL
  refine callsIn_of_wp Tryd.func91 rfl h91 ?_ hro
  simp only [Tryd.ntmps91, List.size_toArray, List.length_cons, List.length_nil, Nat.reduceAdd, Nat.reduceSub, Array.replicate_succ, Array.replicate_zero, List.push_toArray, List.append_toArray, List.nil_append, List.cons_append]
  gi_wp2
  gi_loopw [8] (fun p wr => ∃ k : Nat, k ≤ N ∧ p = I k ∧ J (uptoF N k) wr ∧ Frm n₀ (· = S0) W wr)
    (fun p wr => N - (intOf p).toNat)
  case atStart =>
    exact ⟨0, Nat.zero_le _, rfl, h0, Frm.refl _ _ _⟩
  case round =>
    obtain ⟨k, hk, rfl, hJ, hF⟩ := hrel
    by_cases hlt : k < N
    · have hx := (hF.cell z2.1 z2.2).trans (HL.out ⟨k, hlt⟩)
      have d0 := (hF.cell z1.1 z1.2).trans c0
      obtain ⟨fn, tmps, assign, body, hy, hR⟩ := HY.out (uptoF N k) ⟨k, hlt⟩ wr hJ (by rw [uptoF_len hk]; exact hlt)
      dsimp only at hy hx
      have HR : Hid _ := Lib.hid hR
      have hadd : wrap64 (f + (k : Int)) = f + k := wrap64_small (by omega)
      generalize g ⟨k, hlt⟩ = gk at *
      gi_wp2
      refine hR.mono ?_
      rintro e W3 (⟨rfl, hJ3, hk3⟩ | ⟨rfl, hJx3⟩)
      · gi_wp2
        go_roundw
        case rel => exact ⟨k + 1, by omega, by go_num, by rw [uptoF_succ hlt]; exact hJ3, hF.trans hk3⟩
        case measure => simp [intOf]; omega
      · gi_wp2
        refine bodyPost_ret (results_none rfl _ _ _) rfl ?_
        exact ⟨⟨_, rfl⟩, .inr ⟨_, trivial, hJx3⟩⟩
    · gi_wp2
      go_end0
      obtain rfl : N = k := by omega
      exact ⟨⟨_, rfl⟩, .inl ⟨_, uptoF_all, hJ⟩⟩

set_option maxHeartbeats 1000000 in
theorem all69_in (F : Fence) (n : Nat) (h : F.fn 69) (hro : F.round = none) (f : Int) (v : Value) (w : World) (hv : v.oneCell' = true) :
    CallsIn F n Tryd.prog 69 #[.agg #[I f, v]] w fun e w' => e = .returned (.func (.func 91) #[] #[.pointer (some ⟨w.heap.size, 0, none⟩)]) ∧ w' = w.alloc (.cells #[I f, v] 89) := by
  refine callsIn_of_wp Tryd.func69 rfl h ?_ hro
  simp only [Tryd.ntmps69, List.size_toArray, List.length_cons, List.length_nil, Nat.reduceAdd, Nat.reduceSub, Array.replicate_succ, Array.replicate_zero, List.push_toArray, List.append_toArray, List.nil_append, List.cons_append]
  gi_wp2
  go_ret
  exact ⟨rfl, rfl⟩

theorem frmK_t {n₀ S0 : Nat} {A B C : World} (h : Frm n₀ (· = S0) A B) (k : Frm n₀ (· = S0) B C) : Frm n₀ (· = S0) A C := h.trans k
theorem frmK_b {n₀ S0 : Nat} {w : World} (hn : n₀ ≤ w.heap.size) (W : World) (l : Nat) (o o' : Obj) (hl : w.heap.size ≤ l) (h : W.heap[l]? = some o) (_ : o.isCells = false) (_ : o.isWalk = false) : Frm n₀ (· = S0) W (W.putObj l o') :=
  (Frm.refl _ _ W).grown (grownBy_putObj' W l o') (by have := (Array.getElem?_eq_some_iff.1 h).1; omega) (fun k e => by cases e; exact .inl (by omega))
/-- The iterator that a list of least excesses hands back. -/
theorem all_stops (F : Fence) (n : Nat) (h91 : F.fn 91) (hro : F.round = none) (hn : 1 ≤ n) (Bn n₀ S0 b off N c : Nat) (f : Int) (g : Fin N → Int) (hf : 0 ≤ f ∧ f ≤ 100000) (hN : N ≤ 100000) (w : World) (z1 : Bn < n₀ ∧ Bn ≠ S0) (z2 : b < n₀ ∧ b ≠ S0) (hz : Bn < w.heap.size ∧ b < w.heap.size)
    (c0 : w.cell? ⟨Bn, 0, none⟩ = some (I f)) (c1 : w.cell? ⟨Bn, 1, none⟩ = some (.slice (some ⟨b, off, none⟩) N c)) (hL : ∀ x : Fin N, w.cell? ⟨b, off + x.1, none⟩ = some (I (g x))) :
    SeqStopsK F n Tryd.prog 91 #[.pointer (some ⟨Bn, 0, none⟩)] (fun x : Fin N => #[I (f + (x.1 : Int)), I (g x)]) (Frm n₀ (· = S0)) (fun ys => ∀ k, k ∈ ys) (fun _ => True) N w := fun l J Jx W hW _ _ hY h0 =>
  all91_in F n h91 hro hn l Bn n₀ S0 b off N c f g hf hN z1 z2 J Jx hY W ((hW.cell (p := ⟨Bn, 0, none⟩) hz.1).trans c0) ((hW.cell (p := ⟨Bn, 1, none⟩) hz.1).trans c1) (fun x => (hW.cell (p := ⟨b, _, none⟩) hz.2).trans (hL x)) h0
end Go.Proofs.YtgdilbilhajgaaaDoor
