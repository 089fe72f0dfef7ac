/- Readings: which are valid. -/
import Derived.Test.YtgdilbilhajgaaaDoorB
import Derived.Test.YtgdilbilhajgaaaDoorPf
import Derived.Test.YtgdilbilhajgaaaDoorPg
import Derived.Deep.DeepCutAuto
import Derived.Maps.AppendAt
import Derived.Shelf.Abstract
namespace Go.Proofs.YtgdilbilhajgaaaDoor
set_option linter.unusedVariables false
set_option linter.unusedSimpArgs false
open Go.RowKit

/-- The first place at which p holds, or -1. -/
def idxI {α : Type} (p : α → Bool) (xs : List α) : Int := match xs.findIdx? p with | some i => i | none => -1
theorem idxI_hit {α : Type} {p : α → Bool} {xs : List α} {k : Nat} (hk : k < xs.length) (h : p xs[k] = true) (hb : ∀ j (h : j < xs.length), j < k → p xs[j] = false) : idxI p xs = k := by
  unfold idxI
  rw [List.findIdx?_eq_some_iff_getElem.2 ⟨hk, h, fun j hj => by simp [hb j (by omega) hj]⟩]
theorem idxI_miss {α : Type} {p : α → Bool} {xs : List α} (hb : ∀ j (h : j < xs.length), p xs[j] = false) : idxI p xs = -1 := by
  unfold idxI
  rw [List.findIdx?_eq_none_iff.2 (fun x hx => by obtain ⟨i, hi, rfl⟩ := List.mem_iff_getElem.1 hx; exact hb i hi)]
theorem idxI_any {α : Type} (p : α → Bool) (xs : List α) : decide (0 ≤ idxI p xs) = xs.any p := by
  unfold idxI
  cases h : xs.findIdx? p with
  | none =>
    have := List.findIdx?_eq_none_iff.1 h
    simp only
    rw [show xs.any p = false by simpa using this]
    rfl
  | some i =>
    obtain ⟨hi, hp, _⟩ := List.findIdx?_eq_some_iff_getElem.1 h
    simp only
    rw [show xs.any p = true from List.any_eq_true.2 ⟨_, List.getElem_mem hi, hp⟩]
    simp

/-- Rows of two and of three ints. -/
def Pairs (w : World) (B : Nat) (A : Option Addr) (xs : List (Int × Int)) : Prop :=
  0 < xs.length → ∃ b off, A = some ⟨b, off, none⟩ ∧ b < B ∧ ∀ k (h : k < xs.length), w.cell? ⟨b, off + k * 2, none⟩ = some (I xs[k].1) ∧ w.cell? ⟨b, off + k * 2 + 1, none⟩ = some (I xs[k].2)
def Threes (w : World) (B : Nat) (A : Option Addr) (xs : List (Int × Int × Int)) : Prop :=
  0 < xs.length → ∃ b off, A = some ⟨b, off, none⟩ ∧ b < B ∧ ∀ k (h : k < xs.length), w.cell? ⟨b, off + k * 3, none⟩ = some (I xs[k].1) ∧ w.cell? ⟨b, off + k * 3 + 1, none⟩ = some (I xs[k].2.1) ∧ w.cell? ⟨b, off + k * 3 + 2, none⟩ = some (I xs[k].2.2)
section
variable {w w' : World} {B B' : Nat} {A : Option Addr}
theorem Pairs.keep {xs : List (Int × Int)} (h : Pairs w B A xs) (hk : ∀ p : Addr, p.block < B → w'.cell? p = w.cell? p) : Pairs w' B A xs := fun h0 => by
  obtain ⟨b, off, hA, hb, hc⟩ := h h0
  exact ⟨b, off, hA, hb, fun k hk' => ⟨(hk _ hb).trans (hc k hk').1, (hk _ hb).trans (hc k hk').2⟩⟩
theorem Pairs.more {xs : List (Int × Int)} (h : Pairs w B A xs) (hB : B ≤ B') : Pairs w B' A xs := fun h0 => by
  obtain ⟨b, off, hA, hb, hc⟩ := h h0
  exact ⟨b, off, hA, by omega, hc⟩
theorem Pairs.below {xs : List (Int × Int)} (h : Pairs w B A xs) (hb : Below B w w') : Pairs w' B A xs := h.keep fun _ hp => hb.cell hp
theorem Threes.keep {xs : List (Int × Int × Int)} (h : Threes w B A xs) (hk : ∀ p : Addr, p.block < B → w'.cell? p = w.cell? p) : Threes w' B A xs := fun h0 => by
  obtain ⟨b, off, hA, hb, hc⟩ := h h0
  exact ⟨b, off, hA, hb, fun k hk' => ⟨(hk _ hb).trans (hc k hk').1, (hk _ hb).trans (hc k hk').2.1, (hk _ hb).trans (hc k hk').2.2⟩⟩
theorem Threes.more {xs : List (Int × Int × Int)} (h : Threes w B A xs) (hB : B ≤ B') : Threes w B' A xs := fun h0 => by
  obtain ⟨b, off, hA, hb, hc⟩ := h h0
  exact ⟨b, off, hA, by omega, hc⟩
theorem Threes.below {xs : List (Int × Int × Int)} (h : Threes w B A xs) (hb : Below B w w') : Threes w' B A xs := h.keep fun _ hp => hb.cell hp
end

/-- What is asked of a predicate. -/
def PredP {α : Type} (g : Nat) (lb : Array Value) (enc : α → Value) (p : α → Bool) (xs : List α) (w : World) : Prop :=
  ∀ i (h : i < xs.length) W, Below w.heap.size w W → Calls Tryd.prog g (#[enc xs[i]] ++ lb) W fun e w' => e = .returned (.bool (p xs[i])) ∧ Below W.heap.size W w'

def spanV (s : Int × Int) : Value := .agg #[I s.1, I s.2]
def sndV (s : Int × Int × Int) : Value := .agg #[I s.1, I s.2.1, I s.2.2]
set_option maxHeartbeats 400000 in
theorem idx92 (p : Int × Int × Int → Bool) (g : Nat) (lb : Array Value) (eg : ∀ args w, (callFunc g args).run Tryd.prog w = .ok (.enter g args) w) (A : Option Addr) (c : Nat) (xs : List (Int × Int × Int)) (w : World)
    (hx : Threes w w.heap.size A xs) (hn : xs.length ≤ 9223372036854775807) (hp : PredP g lb sndV p xs w) :
    Calls Tryd.prog 92 #[.slice A xs.length c, .func (.func g) #[] lb] w fun e w' => e = .returned (I (idxI p xs)) ∧ Below w.heap.size w w' := by
  go_enter Tryd.func92, Tryd.ntmps92
  go_wp2
  go_loopw [8] (fun s wr => ∃ k : Nat, k ≤ xs.length ∧ s = I k ∧ Below w.heap.size w wr ∧ Hid (∀ j (h : j < xs.length), j < k → p xs[j] = false)) (fun s _ => xs.length - (intOf s).toNat)
  case atStart => exact ⟨0, Nat.zero_le _, rfl, Below.refl _ _, Lib.hid fun j _ h => by omega⟩
  case round =>
    obtain ⟨k, hk, rfl, hB, hall⟩ := hrel
    by_cases hlt : k < xs.length
    · obtain ⟨b, off, rfl, hb, hcs⟩ := (hx.below hB) (by omega)
      obtain ⟨hc1, hc2, hc3⟩ := hcs k hlt
      have hcall := hp k hlt wr hB
      rw [show sndV xs[k] = .agg #[I xs[k].1, I xs[k].2.1, I xs[k].2.2] from rfl] at hcall
      clear hcs
      cases hq : p xs[k] with
      | true =>
        have HQ := Lib.hid hq
        rw [hq] at hcall
        clear hq
        go_wp2_with (go_at_fn g; refine hcall.mono ?_; rintro e w' ⟨rfl, hb'⟩)
        go_ret
        exact ⟨ret_int (idxI_hit hlt HQ.out hall.out).symm, hB.trans (hb'.mono hB.size)⟩
      | false =>
        have HQ := Lib.hid hq
        rw [hq] at hcall
        clear hq
        go_wp2_with (go_at_fn g; refine hcall.mono ?_; rintro e w' ⟨rfl, hb'⟩)
        go_roundw
        case rel => exact ⟨k + 1, by omega, rfl, hB.trans (hb'.mono hB.size), Lib.hid fun j h hj => by
          rcases Nat.lt_succ_iff_lt_or_eq.1 hj with h1 | rfl
          · exact hall.out j h h1
          · exact HQ.out⟩
        case measure => simp [intOf]; omega
    · go_wp2
      go_ret
      exact ⟨ret_int (idxI_miss fun j h => hall.out j h (by omega)).symm, hB⟩


theorem cont74 (p : Int × Int × Int → Bool) (g : Nat) (lb : Array Value) (eg : ∀ args w, (callFunc g args).run Tryd.prog w = .ok (.enter g args) w) (A : Option Addr) (c : Nat) (xs : List (Int × Int × Int)) (w : World)
    (hx : Threes w w.heap.size A xs) (hn : xs.length ≤ 9223372036854775807) (hp : PredP g lb sndV p xs w) :
    Calls Tryd.prog 74 #[.slice A xs.length c, .func (.func g) #[] lb] w fun e w' => e = .returned (.bool (xs.any p)) ∧ Below w.heap.size w w' := by
  go_enter Tryd.func74, Tryd.ntmps74
  have hcon := idx92 p g lb eg A c xs w hx hn hp
  go_wp2_with (go_at_call 92; refine hcon.mono ?_; rintro e w' ⟨rfl, hb'⟩)
  go_ret
  exact ⟨by rw [idxI_any]; rfl, hb'⟩

theorem below_call {w a w' : World} (h : Below w.heap.size w a) (hB : Below a.heap.size a w') : Below w.heap.size w w' := h.trans (hB.mono h.size)
def inB (n lo hi : Int) : Bool := decide (lo ≤ n) && decide (n ≤ hi)
theorem inB_true {n lo hi : Int} : inB n lo hi = true ↔ lo ≤ n ∧ n ≤ hi := by simp [inB]
theorem inB_false {n lo hi : Int} : inB n lo hi = false ↔ ¬ (lo ≤ n ∧ n ≤ hi) := by rw [← inB_true]; simp
theorem ret_b {a b : Bool} (h : a = b) : Ending.returned (.bool a) = .returned (.bool b) := by rw [h]
set_option maxHeartbeats 400000 in
theorem within34 (n lo hi : Int) (w : World) : Calls Tryd.prog 34 #[I n, I lo, I hi] w fun e w' => e = .returned (.bool (inB n lo hi)) ∧ w = w' := by
  go_enter Tryd.func34, Tryd.ntmps34
  go_wp2
  all_goals
    go_ret
    exact ⟨ret_b (by rw [Bool.eq_iff_iff]; simp [inB]; omega), rfl⟩
set_option maxHeartbeats 400000 in
theorem in42 (n lo hi : Int) (w : World) : Calls Tryd.prog 42 #[I n, I lo, I hi] w fun e w' => e = .returned (.bool (inB n lo hi)) ∧ w = w' := by
  go_enter Tryd.func42, Tryd.ntmps42
  go_wp2
  all_goals
    go_ret
    exact ⟨ret_b (by rw [Bool.eq_iff_iff]; simp [inB]; omega), rfl⟩
/-- A reading is one of n mains. -/
def rdP (n : Int) (s : Int × Int × Int) : Prop := (0 ≤ s.1 ∧ s.1 ≤ n - 1) ∧ 0 ≤ s.2.1 ∧ s.2.1 ≤ s.2.2 ∧ s.2.2 ≤ 1600
instance (n : Int) (s : Int × Int × Int) : Decidable (rdP n s) := by unfold rdP; infer_instance
theorem ret_bool {a b : Bool} (h : a = true ↔ b = true) : Ending.returned (.bool a) = .returned (.bool b) := by rw [Bool.eq_iff_iff.2 h]

set_option maxRecDepth 100000 in
set_option maxHeartbeats 1000000 in
theorem clo73 (s : Int × Int × Int) (n : Nat) (tb T c : Nat) (A : Option Addr) (w : World) (hn : n ≤ 9223372036854775807) (htb : tb < w.heap.size) (hc : w.cell? ⟨tb, 0, none⟩ = some (.pointer (some ⟨T, 0, none⟩))) (hT : T < w.heap.size) (hm : w.cell? ⟨T, 0, none⟩ = some (.slice A n c)) :
    Calls Tryd.prog 73 #[sndV s, .pointer (some ⟨tb, 0, none⟩)] w fun e w' => e = .returned (.bool (!decide (rdP n s))) ∧ Below w.heap.size w w' := by
  obtain ⟨m, a, b⟩ := s
  rw [show sndV (m, a, b) = .agg #[I m, I a, I b] from rfl]
  have hsub : IntKind.i64.wrap ((n : Int) - 1) = (n : Int) - 1 := IntWalk.i64_in _ (by omega)
  have key : ∀ b1 b2 b3 b4 : Bool, inB m 0 ((n : Int) - 1) = b1 → decide (a < 0) = b2 → decide (b < a) = b3 → decide (1600 < b) = b4 →
      Calls Tryd.prog 73 #[.agg #[I m, I a, I b], .pointer (some ⟨tb, 0, none⟩)] w fun e w' => e = .returned (.bool (!b1 || b2 || b3 || b4)) ∧ Below w.heap.size w w' := by
    intro b1 b2 b3 b4 h1 h2 h3 h4
    cases b1
    · go_enter Tryd.func73, Tryd.ntmps73
      go_wp2
      go_quiet ((go_at_call 34; exact Calls.quiet_of_same ((within34 _ _ _ _).mono fun _ _ h => ⟨h.1, h.2.symm⟩)))
      go_wp2
      go_ret
      exact ⟨rfl, by (repeat' (first | assumption | exact Below.refl _ _ | refine Below.drew ?_ | refine below_drewN ?_ _ | refine Below.setCell ?_ (by first | omega | (simp; done) | (simp; omega)) _ | refine Below.alloc ?_ (by first | omega | (simp; done) | (simp; omega)) _ | refine Below.trans ?_ (Below.mono (by assumption) (by first | omega | (simp; done) | (simp; omega)))))⟩
    cases b2
    rotate_left
    · go_enter Tryd.func73, Tryd.ntmps73
      go_wp2
      go_quiet ((go_at_call 34; exact Calls.quiet_of_same ((within34 _ _ _ _).mono fun _ _ h => ⟨h.1, h.2.symm⟩)))
      go_wp2
      go_ret
      exact ⟨rfl, by (repeat' (first | assumption | exact Below.refl _ _ | refine Below.drew ?_ | refine below_drewN ?_ _ | refine Below.setCell ?_ (by first | omega | (simp; done) | (simp; omega)) _ | refine Below.alloc ?_ (by first | omega | (simp; done) | (simp; omega)) _ | refine Below.trans ?_ (Below.mono (by assumption) (by first | omega | (simp; done) | (simp; omega)))))⟩
    cases b3
    rotate_left
    · go_enter Tryd.func73, Tryd.ntmps73
      go_wp2
      go_quiet ((go_at_call 34; exact Calls.quiet_of_same ((within34 _ _ _ _).mono fun _ _ h => ⟨h.1, h.2.symm⟩)))
      go_wp2
      go_ret
      exact ⟨rfl, by (repeat' (first | assumption | exact Below.refl _ _ | refine Below.drew ?_ | refine below_drewN ?_ _ | refine Below.setCell ?_ (by first | omega | (simp; done) | (simp; omega)) _ | refine Below.alloc ?_ (by first | omega | (simp; done) | (simp; omega)) _ | refine Below.trans ?_ (Below.mono (by assumption) (by first | omega | (simp; done) | (simp; omega)))))⟩
    go_enter Tryd.func73, Tryd.ntmps73
    go_wp2
    go_quiet ((go_at_call 34; exact Calls.quiet_of_same ((within34 _ _ _ _).mono fun _ _ h => ⟨h.1, h.2.symm⟩)))
    go_wp2
    go_ret
    exact ⟨by cases b4 <;> simp_all, by (repeat' (first | assumption | exact Below.refl _ _ | refine Below.drew ?_ | refine below_drewN ?_ _ | refine Below.setCell ?_ (by first | omega | (simp; done) | (simp; omega)) _ | refine Below.alloc ?_ (by first | omega | (simp; done) | (simp; omega)) _ | refine Below.trans ?_ (Below.mono (by assumption) (by first | omega | (simp; done) | (simp; omega)))))⟩
  refine (key _ _ _ _ rfl rfl rfl rfl).mono fun e w' ⟨h, hB⟩ => ⟨h.trans (ret_bool ?_), hB⟩
  simp only [Bool.or_eq_true, Bool.not_eq_true', inB_false, decide_eq_true_iff, decide_eq_false_iff_not]
  unfold rdP
  simp only
  omega
end Go.Proofs.YtgdilbilhajgaaaDoor
