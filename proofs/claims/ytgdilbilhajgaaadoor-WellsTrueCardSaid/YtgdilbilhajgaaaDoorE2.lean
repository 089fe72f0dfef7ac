/- Spans: a row of one's own; and, empty, plus. -/
import Derived.Test.YtgdilbilhajgaaaDoorE1
namespace Go.Proofs.YtgdilbilhajgaaaDoor
set_option linter.unusedVariables false
set_option linter.unusedSimpArgs false
open Go Go.RowKit

/-- Block b holds just these spans, and may be written. -/
def SpB (W : World) (b : Nat) (s : List (Int × Int)) : Prop := b < W.heap.size ∧ ∀ k (h : k < s.length),
  W.cell? ⟨b, k * 2, none⟩ = some (I s[k].1) ∧ W.cell? ⟨b, k * 2 + 1, none⟩ = some (I s[k].2) ∧ W.frozen? ⟨b, k * 2, none⟩ = false ∧ W.frozen? ⟨b, k * 2 + 1, none⟩ = false
section
variable {W W' : World} {b : Nat} {s : List (Int × Int)}
theorem SpB.keep (h : SpB W b s) (hz : W.heap.size ≤ W'.heap.size) (hc : ∀ o, W'.cell? ⟨b, o, none⟩ = W.cell? ⟨b, o, none⟩) (hf : ∀ o, W'.frozen? ⟨b, o, none⟩ = W.frozen? ⟨b, o, none⟩) : SpB W' b s :=
  ⟨Nat.lt_of_lt_of_le h.1 hz, fun k hk => by
    obtain ⟨a1, a2, a3, a4⟩ := h.2 k hk
    exact ⟨(hc _).trans a1, (hc _).trans a2, (hf _).trans a3, (hf _).trans a4⟩⟩
theorem SpB.below {B : Nat} (h : SpB W b s) (hB : Below B W W') (hb : b < B) : SpB W' b s := h.keep hB.size (fun o => hB.cell (p := ⟨b, o, none⟩) hb) (fun o => hB.frozen (p := ⟨b, o, none⟩) hb)
theorem SpB.call (h : SpB W b s) (hB : Below W.heap.size W W') : SpB W' b s := h.below hB h.1
theorem SpB.drew (h : SpB W b s) : SpB W.drew b s := h
theorem SpB.drewN (h : SpB W b s) (n : Nat) : SpB (W.drewN n) b s := h
theorem SpB.alloc (h : SpB W b s) (o : Obj) : SpB (W.alloc o) b s := h.call ((Below.refl _ _).alloc (Nat.le_refl _) o)
theorem SpB.far (h : SpB W b s) {p : Addr} (hp : p.block ≠ b) (u : Value) : SpB (W.setCell p u) b s :=
  h.keep (by simp) (fun o => World.cell?_setCell_other _ _ _ _ (fun e => hp (by rw [e]))) (fun o => World.frozen?_setCell _ _ _ _)
theorem SpB.grown {row : Option Nat} (h : SpB W b s) (hg : W.grownBy W' row) (hr : row ≠ some b) : SpB W' b s :=
  h.keep hg.size (fun o => World.cell?_of_block (hg.block b h.1 (fun e => hr e.symm))) (fun o => World.frozen?_of_block (hg.block b h.1 (fun e => hr e.symm)))
theorem SpB.frm {N : Nat} {S : Nat → Prop} (h : SpB W b s) (hF : Frm N S W W') (hb : b < N) (hS : ¬ S b) : SpB W' b s :=
  h.keep hF.size (fun o => hF.cell hb hS) (fun o => hF.frozen hb hS)
theorem SpB.pairs (h : SpB W b s) {B : Nat} (hb : b < B) : Pairs W B (some ⟨b, 0, none⟩) s := fun _ => ⟨b, 0, rfl, hb, fun k hk => by
  obtain ⟨a1, a2, _, _⟩ := h.2 k hk
  simpa using ⟨a1, a2⟩⟩
theorem SpB.set (h : SpB W b s) (k : Nat) (hk : k < s.length) (x y : Int) : SpB ((W.setCell ⟨b, k * 2, none⟩ (I x)).setCell ⟨b, k * 2 + 1, none⟩ (I y)) b (s.set k (x, y)) := by
  refine ⟨by simpa using h.1, fun j hj => ?_⟩
  rw [List.length_set] at hj
  obtain ⟨a1, a2, a3, a4⟩ := h.2 j hj
  obtain ⟨b1, b2, b3, b4⟩ := h.2 k hk
  refine ⟨?_, ?_, by simpa using a3, by simpa using a4⟩
  · by_cases e : j = k
    · subst e
      rw [World.cell?_setCell_other _ _ _ _ (by simp), World.cell?_setCell_same _ _ _ b1]
      simp
    · rw [World.cell?_setCell_other _ _ _ _ (by simp <;> omega), World.cell?_setCell_other _ _ _ _ (by simp <;> omega), a1]
      simp [List.getElem_set, Ne.symm e]
  · by_cases e : j = k
    · subst e
      rw [World.cell?_setCell_same _ _ _ (by rw [World.cell?_setCell_other _ _ _ _ (by simp)]; exact b2)]
      simp
    · rw [World.cell?_setCell_other _ _ _ _ (by simp <;> omega), World.cell?_setCell_other _ _ _ _ (by simp <;> omega), a2]
      simp [List.getElem_set, Ne.symm e]
end

set_option maxHeartbeats 400000 in
theorem and62 (a b c d : Int) (w : World) : Calls Tryd.prog 62 #[.agg #[I a, I b], .agg #[I c, I d]] w fun e w' => e = .returned (.agg #[I (max a c), I (min b d)]) ∧ Below w.heap.size w w' := by
  go_enter Tryd.func62, Tryd.ntmps62
  go_wp2
  refine bodyPost_ret (v := .agg #[I (max a c), I (min b d)]) (by simp [results, Tryd.results62, go_sem]) rfl ⟨rfl, ?_⟩
  (repeat' (first | assumption | exact Below.refl _ _ | refine Below.drew ?_ | refine below_drewN ?_ _ | refine Below.setCell ?_ (by first | omega | (simp; done) | (simp; omega)) _ | refine Below.alloc ?_ (by first | omega | (simp; done) | (simp; omega)) _ | refine Below.trans ?_ (Below.mono (by assumption) (by first | omega | (simp; done) | (simp; omega)))))
set_option maxHeartbeats 400000 in
theorem both89 (a b c d : Int) (w : World) : Calls Tryd.prog 89 #[.agg #[I a, I b], .agg #[I c, I d]] w fun e w' => e = .returned (.agg #[I (max a c), I (min b d)]) ∧ Below w.heap.size w w' := by
  go_enter Tryd.func89, Tryd.ntmps89
  go_wp2
  refine bodyPost_ret (v := .agg #[I (max a c), I (min b d)]) (by simp [results, Tryd.results89, go_sem]) rfl ⟨rfl, ?_⟩
  (repeat' (first | assumption | exact Below.refl _ _ | refine Below.drew ?_ | refine below_drewN ?_ _ | refine Below.setCell ?_ (by first | omega | (simp; done) | (simp; omega)) _ | refine Below.alloc ?_ (by first | omega | (simp; done) | (simp; omega)) _ | refine Below.trans ?_ (Below.mono (by assumption) (by first | omega | (simp; done) | (simp; omega)))))
set_option maxHeartbeats 400000 in
theorem empty63 (a b : Int) (w : World) : Calls Tryd.prog 63 #[.agg #[I a, I b]] w fun e w' => e = .returned (.bool (decide (b < a))) ∧ Below w.heap.size w w' := by
  go_enter Tryd.func63, Tryd.ntmps63
  go_wp2
  go_ret
  exact ⟨rfl, by (repeat' (first | assumption | exact Below.refl _ _ | refine Below.drew ?_ | refine below_drewN ?_ _ | refine Below.setCell ?_ (by first | omega | (simp; done) | (simp; omega)) _ | refine Below.alloc ?_ (by first | omega | (simp; done) | (simp; omega)) _ | refine Below.trans ?_ (Below.mono (by assumption) (by first | omega | (simp; done) | (simp; omega)))))⟩

/-- The sum of spans, as a machine adds. -/
def plusF (s x : Int × Int) : Int × Int := (wrap64 (s.1 + x.1), wrap64 (s.2 + x.2))
def plusW (l : List (Int × Int)) : Int × Int := l.foldl plusF (0, 0)
theorem plusW_snoc (l : List (Int × Int)) (k : Nat) (h : k < l.length) : plusW (l.take (k + 1)) = plusF (plusW (l.take k)) l[k] := by
  unfold plusW
  rw [List.take_succ_eq_append_getElem h, List.foldl_append]
  rfl
set_option maxRecDepth 100000 in
set_option maxHeartbeats 1000000 in
theorem plus61 (A : Option Addr) (c : Nat) (xs : List (Int × Int)) (w : World) (hx : Pairs w w.heap.size A xs) (hn : xs.length ≤ 9223372036854775807) :
    Calls Tryd.prog 61 #[.slice A xs.length c] w fun e w' => e = .returned (.agg #[I (plusW xs).1, I (plusW xs).2]) ∧ Below w.heap.size w w' := by
  go_enter Tryd.func61, Tryd.ntmps61
  go_wp2
  go_loopw [7] (fun s wr => ∃ k : Nat, k ≤ xs.length ∧ s = I k ∧ Below w.heap.size w wr ∧ w.heap.size < wr.heap.size ∧ wr.cell? ⟨w.heap.size, 0, none⟩ = some (I (plusW (xs.take k)).1) ∧ wr.cell? ⟨w.heap.size, 1, none⟩ = some (I (plusW (xs.take k)).2) ∧ wr.frozen? ⟨w.heap.size, 0, none⟩ = false ∧ wr.frozen? ⟨w.heap.size, 1, none⟩ = false) (fun s _ => xs.length - (intOf s).toNat)
  case atStart => exact ⟨0, Nat.zero_le _, rfl, by (repeat' (first | assumption | exact Below.refl _ _ | refine Below.drew ?_ | refine below_drewN ?_ _ | refine Below.setCell ?_ (by first | omega | (simp; done) | (simp; omega)) _ | refine Below.alloc ?_ (by first | omega | (simp; done) | (simp; omega)) _ | refine Below.trans ?_ (Below.mono (by assumption) (by first | omega | (simp; done) | (simp; omega))))), by simp, by simp [go_sem, plusW], by simp [go_sem, plusW], by simp [go_sem], by simp [go_sem]⟩
  case round =>
    obtain ⟨k, hk, rfl, hB, hz, c0, c1, f0, f1⟩ := hrel
    by_cases hlt : k < xs.length
    · obtain ⟨b, off, rfl, hb, hcs⟩ := (hx.below hB) (by omega)
      obtain ⟨hc1, hc2⟩ := hcs k hlt
      have HS := Lib.hid (plusW_snoc xs k hlt)
      clear hcs
      generalize xs[k] = x at *
      obtain ⟨x1, x2⟩ := x
      generalize plusW (xs.take k) = p at *
      obtain ⟨p1, p2⟩ := p
      simp only at *
      go_wp2
      go_region
      go_wp2
      go_roundw
      case rel => exact ⟨k + 1, by omega, by go_num, by (repeat' (first | assumption | exact Below.refl _ _ | refine Below.drew ?_ | refine below_drewN ?_ _ | refine Below.setCell ?_ (by first | omega | (simp; done) | (simp; omega)) _ | refine Below.alloc ?_ (by first | omega | (simp; done) | (simp; omega)) _ | refine Below.trans ?_ (Below.mono (by assumption) (by first | omega | (simp; done) | (simp; omega))))), by simp; omega, by rw [HS.out]; simp [go_sem, plusF, *], by rw [HS.out]; simp [go_sem, plusF, *], by simp [go_sem, *], by simp [go_sem, *]⟩
      case measure => simp [intOf]; omega
    · obtain rfl : k = xs.length := by omega
      simp only [List.take_length] at *
      go_wp2
      refine bodyPost_ret (v := .agg #[I (plusW xs).1, I (plusW xs).2]) (by simp [results, Tryd.results61, go_sem, *]) rfl ⟨rfl, ?_⟩
      (repeat' (first | assumption | exact Below.refl _ _ | refine Below.drew ?_ | refine below_drewN ?_ _ | refine Below.setCell ?_ (by first | omega | (simp; done) | (simp; omega)) _ | refine Below.alloc ?_ (by first | omega | (simp; done) | (simp; omega)) _ | refine Below.trans ?_ (Below.mono (by assumption) (by first | omega | (simp; done) | (simp; omega)))))
end Go.Proofs.YtgdilbilhajgaaaDoor
