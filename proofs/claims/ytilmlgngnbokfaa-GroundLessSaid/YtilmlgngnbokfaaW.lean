/- with; the closures of Most and Apart. -/
import Derived.Test.YtilmlgngnbokfaaBr
import Derived.Test.YtilmlgngnbokfaaSe
namespace Go.Proofs.Ytilmlgngnbokfaa
set_option linter.unusedVariables false
set_option linter.unusedSimpArgs false
open Go.RowKit

def fieldV (firm : Int) (gg cap : Nat) (cr : List (Int × Int)) (Ap Al : Option Addr) (cp cl : Nat) (d : Deck) : Value :=
  .agg #[I firm, .slice (some ⟨gg, 0, none⟩) cr.length cap, .slice Ap d.posts.length cp, .slice Al d.lengths.length cl, I d.own, I d.weight, I d.apart, I d.persons]
/-- What a field needs, below w. -/
structure FieldOk (w : World) (firm : Int) (gg cap : Nat) (cr : List (Int × Int)) (Ap Al : Option Addr) (d : Deck) : Prop where
  hgg : gg < w.heap.size
  hC : Crust2 w gg cr
  hcr : cr.length ≤ 400
  hcap : cr.length ≤ cap ∧ cap ≤ 9223372036854775807
  hlo : ∀ k (h : k < cr.length), 0 ≤ cr[k].1 ∧ cr[k].1 ≤ 500
  hfirm : 1 ≤ firm ∧ firm ≤ 100
  hp : Ints w w.heap.size Ap d.posts
  hb : Ints w w.heap.size Al d.lengths
  hd : d.ok cr.length
theorem FieldOk.below {w W : World} {firm : Int} {gg cap : Nat} {cr : List (Int × Int)} {Ap Al : Option Addr} {d : Deck} (h : FieldOk w firm gg cap cr Ap Al d) (hB : Below w.heap.size w W) : FieldOk W firm gg cap cr Ap Al d :=
  ⟨Nat.lt_of_lt_of_le h.hgg hB.size, h.hC.below hB h.hgg, h.hcr, h.hcap, h.hlo, h.hfirm, (h.hp.below hB).more hB.size, (h.hb.below hB).more hB.size, h.hd⟩

/-- The deck with another number of persons, or another distance. -/
def Deck.pe (d : Deck) (n : Int) : Deck := { d with persons := n }
def Deck.ap (d : Deck) (n : Int) : Deck := { d with apart := n }
theorem Deck.pe_ok {d : Deck} {c n : Int} (h : d.ok c) (hn : 0 ≤ n ∧ n ≤ 100) : (d.pe n).ok c := by
  obtain ⟨a1, a2, a3, a4, a5, a6, a7, a8, a9⟩ := h
  exact ⟨a1, a2, a3, a4, a5, a6, a7, a8, hn⟩
theorem Deck.ap_ok {d : Deck} {c n : Int} (h : d.ok c) (hn : 1 ≤ n ∧ n ≤ 400) : (d.ap n).ok c := by
  obtain ⟨a1, a2, a3, a4, a5, a6, a7, a8, a9⟩ := h
  exact ⟨a1, a2, a3, a4, a5, a6, a7, hn, a9⟩
/-- Bears the deck? -/
def bearsB (d : Deck) (cr : List (Int × Int)) (firm : Int) : Bool := decide (brkI d cr firm < 0)

theorem set55 (fb : Nat) (n : Int) (v : Value) (w : World) (hc : w.cell? ⟨fb, 2 + 5, none⟩ = some v) (hf : w.frozen? ⟨fb, 2 + 5, none⟩ = false) :
    Calls Try.prog 55 #[.pointer (some ⟨fb, 2, none⟩), I n] w fun e w' => e = .returned (.tuple #[]) ∧ w' = w.setCell ⟨fb, 7, none⟩ (I n) := by
  go_enter Try.func55, Try.ntmps55
  go_wp2
  exact bodyPost_end (results_none rfl _ _ _) rfl ⟨rfl, rfl⟩
theorem set57 (fb : Nat) (n : Int) (v : Value) (w : World) (hc : w.cell? ⟨fb, 2 + 4, none⟩ = some v) (hf : w.frozen? ⟨fb, 2 + 4, none⟩ = false) :
    Calls Try.prog 57 #[.pointer (some ⟨fb, 2, none⟩), I n] w fun e w' => e = .returned (.tuple #[]) ∧ w' = w.setCell ⟨fb, 6, none⟩ (I n) := by
  go_enter Try.func57, Try.ntmps57
  go_wp2
  exact bodyPost_end (results_none rfl _ _ _) rfl ⟨rfl, rfl⟩

set_option maxRecDepth 100000 in
set_option maxHeartbeats 1000000 in
theorem with_pe (firm : Int) (gg cap : Nat) (cr : List (Int × Int)) (Ap Al : Option Addr) (cp cl : Nat) (d : Deck) (n : Int) (hn : 0 ≤ n ∧ n ≤ 100) (w : World) (hF : FieldOk w firm gg cap cr Ap Al d) :
    Calls Try.prog 52 #[fieldV firm gg cap cr Ap Al cp cl d, .func (.func 55) #[] #[], I n] w fun e w' => e = .returned (.bool (bearsB (d.pe n) cr firm)) ∧ Below w.heap.size w w' := by
  have hBr : ∀ W, Below w.heap.size w W → w.heap.size < W.heap.size → FieldAt W w.heap.size firm gg cap cr Ap Al cp cl (d.pe n) → Calls Try.prog 49 #[.pointer (some ⟨w.heap.size, 0, none⟩)] W _ := fun W hB hz hA =>
    have h := hF.below hB
    breaks_any w.heap.size gg cap firm cr Ap Al cp cl (d.pe n) W hz h.hgg hA h.hC h.hcr h.hcap h.hlo h.hfirm h.hp h.hb (Deck.pe_ok h.hd hn)
  have hBr2 : ∀ W, Below w.heap.size w W → w.heap.size < W.heap.size → FieldAt W w.heap.size firm gg cap cr Ap Al cp cl (d.pe n) → Calls Try.prog 49 #[.pointer (some ⟨w.heap.size, 0, none⟩)] W fun e w' => ∃ i, e = .returned (.tuple #[I i, .bool (!bearsB (d.pe n) cr firm)]) ∧ Below W.heap.size W w' := fun W h1 h2 h3 =>
    (hBr W h1 h2 h3).mono fun e w' ⟨hB, ho⟩ => by
      rcases ho with ⟨h, rfl⟩ | ⟨h, rfl⟩
      · exact ⟨0, by rw [show bearsB (d.pe n) cr firm = true from decide_eq_true h]; rfl, hB⟩
      · exact ⟨_, by rw [show bearsB (d.pe n) cr firm = false from decide_eq_false (by omega)]; rfl, hB⟩
  clear hBr
  generalize bearsB (d.pe n) cr firm = bb at hBr2 ⊢
  obtain ⟨ps, ls, own, wt, ap, pe⟩ := d
  simp only [fieldV, FieldAt, Deck.pe] at *
  clear hF
  go_enter Try.func52, Try.ntmps52
  go_wp2_with (first
    | (go_at_call 49; refine (hBr2 _ (by (repeat' (first | assumption | exact Below.refl _ _ | refine Below.drew ?_ | refine below_drewN ?_ _ | refine Below.setCell ?_ (by first | omega | (simp; done) | (simp; omega)) _ | refine Below.alloc ?_ (by first | omega | (simp; done) | (simp; omega)) _ | refine Below.trans ?_ (Below.mono (by assumption) (by first | omega | (simp; done) | (simp; omega)))))) (by simp) (by simp [go_sem])).mono ?_; rintro e w1 ⟨i, rfl, hB⟩)
    | (go_at_call 55; refine (set55 _ _ (I pe) _ (by simp [go_sem]) (by simp [go_sem])).mono ?_; rintro e w1 ⟨rfl, rfl⟩))
  go_ret
  exact ⟨by simp, below_call (by (repeat' (first | assumption | exact Below.refl _ _ | refine Below.drew ?_ | refine below_drewN ?_ _ | refine Below.setCell ?_ (by first | omega | (simp; done) | (simp; omega)) _ | refine Below.alloc ?_ (by first | omega | (simp; done) | (simp; omega)) _ | refine Below.trans ?_ (Below.mono (by assumption) (by first | omega | (simp; done) | (simp; omega)))))) hB⟩

set_option maxRecDepth 100000 in
set_option maxHeartbeats 1000000 in
theorem with_ap (firm : Int) (gg cap : Nat) (cr : List (Int × Int)) (Ap Al : Option Addr) (cp cl : Nat) (d : Deck) (n : Int) (hn : 1 ≤ n ∧ n ≤ 400) (w : World) (hF : FieldOk w firm gg cap cr Ap Al d) :
    Calls Try.prog 52 #[fieldV firm gg cap cr Ap Al cp cl d, .func (.func 57) #[] #[], I n] w fun e w' => e = .returned (.bool (bearsB (d.ap n) cr firm)) ∧ Below w.heap.size w w' := by
  have hBr : ∀ W, Below w.heap.size w W → w.heap.size < W.heap.size → FieldAt W w.heap.size firm gg cap cr Ap Al cp cl (d.ap n) → Calls Try.prog 49 #[.pointer (some ⟨w.heap.size, 0, none⟩)] W _ := fun W hB hz hA =>
    have h := hF.below hB
    breaks_any w.heap.size gg cap firm cr Ap Al cp cl (d.ap n) W hz h.hgg hA h.hC h.hcr h.hcap h.hlo h.hfirm h.hp h.hb (Deck.ap_ok h.hd hn)
  have hBr2 : ∀ W, Below w.heap.size w W → w.heap.size < W.heap.size → FieldAt W w.heap.size firm gg cap cr Ap Al cp cl (d.ap n) → Calls Try.prog 49 #[.pointer (some ⟨w.heap.size, 0, none⟩)] W fun e w' => ∃ i, e = .returned (.tuple #[I i, .bool (!bearsB (d.ap n) cr firm)]) ∧ Below W.heap.size W w' := fun W h1 h2 h3 =>
    (hBr W h1 h2 h3).mono fun e w' ⟨hB, ho⟩ => by
      rcases ho with ⟨h, rfl⟩ | ⟨h, rfl⟩
      · exact ⟨0, by rw [show bearsB (d.ap n) cr firm = true from decide_eq_true h]; rfl, hB⟩
      · exact ⟨_, by rw [show bearsB (d.ap n) cr firm = false from decide_eq_false (by omega)]; rfl, hB⟩
  clear hBr
  generalize bearsB (d.ap n) cr firm = bb at hBr2 ⊢
  obtain ⟨ps, ls, own, wt, ap, pe⟩ := d
  simp only [fieldV, FieldAt, Deck.ap] at *
  clear hF
  go_enter Try.func52, Try.ntmps52
  go_wp2_with (first
    | (go_at_call 49; refine (hBr2 _ (by (repeat' (first | assumption | exact Below.refl _ _ | refine Below.drew ?_ | refine below_drewN ?_ _ | refine Below.setCell ?_ (by first | omega | (simp; done) | (simp; omega)) _ | refine Below.alloc ?_ (by first | omega | (simp; done) | (simp; omega)) _ | refine Below.trans ?_ (Below.mono (by assumption) (by first | omega | (simp; done) | (simp; omega)))))) (by simp) (by simp [go_sem])).mono ?_; rintro e w1 ⟨i, rfl, hB⟩)
    | (go_at_call 57; refine (set57 _ _ (I ap) _ (by simp [go_sem]) (by simp [go_sem])).mono ?_; rintro e w1 ⟨rfl, rfl⟩))
  go_ret
  exact ⟨by simp, below_call (by (repeat' (first | assumption | exact Below.refl _ _ | refine Below.drew ?_ | refine below_drewN ?_ _ | refine Below.setCell ?_ (by first | omega | (simp; done) | (simp; omega)) _ | refine Below.alloc ?_ (by first | omega | (simp; done) | (simp; omega)) _ | refine Below.trans ?_ (Below.mono (by assumption) (by first | omega | (simp; done) | (simp; omega)))))) hB⟩

end Go.Proofs.Ytilmlgngnbokfaa
