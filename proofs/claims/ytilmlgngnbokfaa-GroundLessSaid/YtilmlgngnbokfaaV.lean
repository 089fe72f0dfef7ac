/- Which ground, soundings and decks are valid: the program's functions and the document's. -/
import Derived.Test.YtilmlgngnbokfaaA
import Derived.Shelf.Abstract
namespace Go.Proofs.Ytilmlgngnbokfaa
set_option linter.unusedVariables false
set_option linter.unusedSimpArgs false
open Go.RowKit

/-- The first place at which p holds, or -1. -/
def idxI {α : Type} (p : α → Bool) (xs : List α) : Int := match xs.findIdx? p with | some i => i | none => -1
theorem idxI_hit {α : Type} {p : α → Bool} {xs : List α} {k : Nat} (hk : k < xs.length) (h : p xs[k] = true) (hb : ∀ j (h : j < xs.length), j < k → p xs[j] = false) : idxI p xs = k := by
  unfold idxI
  rw [List.findIdx?_eq_some_iff_getElem.2 ⟨hk, h, fun j hj => by simp [hb j (by omega) hj]⟩]
theorem idxI_miss {α : Type} {p : α → Bool} {xs : List α} (hb : ∀ j (h : j < xs.length), p xs[j] = false) : idxI p xs = -1 := by
  unfold idxI
  rw [List.findIdx?_eq_none_iff.2 (fun x hx => by obtain ⟨i, hi, rfl⟩ := List.mem_iff_getElem.1 hx; exact hb i hi)]
theorem idxI_any {α : Type} (p : α → Bool) (xs : List α) : decide (0 ≤ idxI p xs) = xs.any p := by
  unfold idxI
  cases h : xs.findIdx? p with
  | none =>
    have := List.findIdx?_eq_none_iff.1 h
    simp only
    rw [show xs.any p = false by simpa using this]
    rfl
  | some i =>
    obtain ⟨hi, hp, _⟩ := List.findIdx?_eq_some_iff_getElem.1 h
    simp only
    rw [show xs.any p = true from List.any_eq_true.2 ⟨_, List.getElem_mem hi, hp⟩]
    simp

/-- Rows of two and of three ints. -/
def Pairs (w : World) (B : Nat) (A : Option Addr) (xs : List (Int × Int)) : Prop :=
  0 < xs.length → ∃ b off, A = some ⟨b, off, none⟩ ∧ b < B ∧ ∀ k (h : k < xs.length), w.cell? ⟨b, off + k * 2, none⟩ = some (I xs[k].1) ∧ w.cell? ⟨b, off + k * 2 + 1, none⟩ = some (I xs[k].2)
def Threes (w : World) (B : Nat) (A : Option Addr) (xs : List (Int × Int × Int)) : Prop :=
  0 < xs.length → ∃ b off, A = some ⟨b, off, none⟩ ∧ b < B ∧ ∀ k (h : k < xs.length), w.cell? ⟨b, off + k * 3, none⟩ = some (I xs[k].1) ∧ w.cell? ⟨b, off + k * 3 + 1, none⟩ = some (I xs[k].2.1) ∧ w.cell? ⟨b, off + k * 3 + 2, none⟩ = some (I xs[k].2.2)
section
variable {w w' : World} {B B' : Nat} {A : Option Addr}
theorem Pairs.keep {xs : List (Int × Int)} (h : Pairs w B A xs) (hk : ∀ p : Addr, p.block < B → w'.cell? p = w.cell? p) : Pairs w' B A xs := fun h0 => by
  obtain ⟨b, off, hA, hb, hc⟩ := h h0
  exact ⟨b, off, hA, hb, fun k hk' => ⟨(hk _ hb).trans (hc k hk').1, (hk _ hb).trans (hc k hk').2⟩⟩
theorem Pairs.more {xs : List (Int × Int)} (h : Pairs w B A xs) (hB : B ≤ B') : Pairs w B' A xs := fun h0 => by
  obtain ⟨b, off, hA, hb, hc⟩ := h h0
  exact ⟨b, off, hA, by omega, hc⟩
theorem Pairs.below {xs : List (Int × Int)} (h : Pairs w B A xs) (hb : Below B w w') : Pairs w' B A xs := h.keep fun _ hp => hb.cell hp
theorem Threes.keep {xs : List (Int × Int × Int)} (h : Threes w B A xs) (hk : ∀ p : Addr, p.block < B → w'.cell? p = w.cell? p) : Threes w' B A xs := fun h0 => by
  obtain ⟨b, off, hA, hb, hc⟩ := h h0
  exact ⟨b, off, hA, hb, fun k hk' => ⟨(hk _ hb).trans (hc k hk').1, (hk _ hb).trans (hc k hk').2.1, (hk _ hb).trans (hc k hk').2.2⟩⟩
theorem Threes.more {xs : List (Int × Int × Int)} (h : Threes w B A xs) (hB : B ≤ B') : Threes w B' A xs := fun h0 => by
  obtain ⟨b, off, hA, hb, hc⟩ := h h0
  exact ⟨b, off, hA, by omega, hc⟩
theorem Threes.below {xs : List (Int × Int × Int)} (h : Threes w B A xs) (hb : Below B w w') : Threes w' B A xs := h.keep fun _ hp => hb.cell hp
end

/-- What is asked of a predicate. -/
def PredP {α : Type} (g : Nat) (lb : Array Value) (enc : α → Value) (p : α → Bool) (xs : List α) (w : World) : Prop :=
  ∀ i (h : i < xs.length) W, Below w.heap.size w W → Calls Try.prog g (#[enc xs[i]] ++ lb) W fun e w' => e = .returned (.bool (p xs[i])) ∧ Below W.heap.size W w'

def spanV (s : Int × Int) : Value := .agg #[I s.1, I s.2]
def sndV (s : Int × Int × Int) : Value := .agg #[I s.1, I s.2.1, I s.2.2]
set_option maxHeartbeats 400000 in
theorem idx76 (p : Int → Bool) (g : Nat) (lb : Array Value) (eg : ∀ args w, (callFunc g args).run Try.prog w = .ok (.enter g args) w) (A : Option Addr) (c : Nat) (xs : List Int) (w : World)
    (hx : Ints w w.heap.size A xs) (hn : xs.length ≤ 9223372036854775807) (hp : PredP g lb I p xs w) :
    Calls Try.prog 76 #[.slice A xs.length c, .func (.func g) #[] lb] w fun e w' => e = .returned (I (idxI p xs)) ∧ Below w.heap.size w w' := by
  go_enter Try.func76, Try.ntmps76
  go_wp2
  go_loopw [8] (fun s wr => ∃ k : Nat, k ≤ xs.length ∧ s = I k ∧ Below w.heap.size w wr ∧ Hid (∀ j (h : j < xs.length), j < k → p xs[j] = false)) (fun s _ => xs.length - (intOf s).toNat)
  case atStart => exact ⟨0, Nat.zero_le _, rfl, Below.refl _ _, Lib.hid fun j _ h => by omega⟩
  case round =>
    obtain ⟨k, hk, rfl, hB, hall⟩ := hrel
    by_cases hlt : k < xs.length
    · obtain ⟨b, off, rfl, hb, hcs⟩ := (hx.below hB) (by omega)
      have hcell := hcs k hlt
      have hcall := hp k hlt wr hB
      clear hcs
      cases hq : p xs[k] with
      | true =>
        have HQ := Lib.hid hq
        rw [hq] at hcall
        clear hq
        go_wp2_with (go_at_fn g; refine hcall.mono ?_; rintro e w' ⟨rfl, hb'⟩)
        go_ret
        exact ⟨ret_int (idxI_hit hlt HQ.out hall.out).symm, hB.trans (hb'.mono hB.size)⟩
      | false =>
        have HQ := Lib.hid hq
        rw [hq] at hcall
        clear hq
        go_wp2_with (go_at_fn g; refine hcall.mono ?_; rintro e w' ⟨rfl, hb'⟩)
        go_roundw
        case rel => exact ⟨k + 1, by omega, rfl, hB.trans (hb'.mono hB.size), Lib.hid fun j h hj => by
          rcases Nat.lt_succ_iff_lt_or_eq.1 hj with h1 | rfl
          · exact hall.out j h h1
          · exact HQ.out⟩
        case measure => simp [intOf]; omega
    · go_wp2
      go_ret
      exact ⟨ret_int (idxI_miss fun j h => hall.out j h (by omega)).symm, hB⟩

set_option maxHeartbeats 400000 in
theorem idx73 (p : Int × Int → Bool) (g : Nat) (lb : Array Value) (eg : ∀ args w, (callFunc g args).run Try.prog w = .ok (.enter g args) w) (A : Option Addr) (c : Nat) (xs : List (Int × Int)) (w : World)
    (hx : Pairs w w.heap.size A xs) (hn : xs.length ≤ 9223372036854775807) (hp : PredP g lb spanV p xs w) :
    Calls Try.prog 73 #[.slice A xs.length c, .func (.func g) #[] lb] w fun e w' => e = .returned (I (idxI p xs)) ∧ Below w.heap.size w w' := by
  go_enter Try.func73, Try.ntmps73
  go_wp2
  go_loopw [8] (fun s wr => ∃ k : Nat, k ≤ xs.length ∧ s = I k ∧ Below w.heap.size w wr ∧ Hid (∀ j (h : j < xs.length), j < k → p xs[j] = false)) (fun s _ => xs.length - (intOf s).toNat)
  case atStart => exact ⟨0, Nat.zero_le _, rfl, Below.refl _ _, Lib.hid fun j _ h => by omega⟩
  case round =>
    obtain ⟨k, hk, rfl, hB, hall⟩ := hrel
    by_cases hlt : k < xs.length
    · obtain ⟨b, off, rfl, hb, hcs⟩ := (hx.below hB) (by omega)
      obtain ⟨hc1, hc2⟩ := hcs k hlt
      have hcall := hp k hlt wr hB
      rw [show spanV xs[k] = .agg #[I xs[k].1, I xs[k].2] from rfl] at hcall
      clear hcs
      cases hq : p xs[k] with
      | true =>
        have HQ := Lib.hid hq
        rw [hq] at hcall
        clear hq
        go_wp2_with (go_at_fn g; refine hcall.mono ?_; rintro e w' ⟨rfl, hb'⟩)
        go_ret
        exact ⟨ret_int (idxI_hit hlt HQ.out hall.out).symm, hB.trans (hb'.mono hB.size)⟩
      | false =>
        have HQ := Lib.hid hq
        rw [hq] at hcall
        clear hq
        go_wp2_with (go_at_fn g; refine hcall.mono ?_; rintro e w' ⟨rfl, hb'⟩)
        go_roundw
        case rel => exact ⟨k + 1, by omega, rfl, hB.trans (hb'.mono hB.size), Lib.hid fun j h hj => by
          rcases Nat.lt_succ_iff_lt_or_eq.1 hj with h1 | rfl
          · exact hall.out j h h1
          · exact HQ.out⟩
        case measure => simp [intOf]; omega
    · go_wp2
      go_ret
      exact ⟨ret_int (idxI_miss fun j h => hall.out j h (by omega)).symm, hB⟩

set_option maxHeartbeats 400000 in
theorem idx81 (p : Int × Int × Int → Bool) (g : Nat) (lb : Array Value) (eg : ∀ args w, (callFunc g args).run Try.prog w = .ok (.enter g args) w) (A : Option Addr) (c : Nat) (xs : List (Int × Int × Int)) (w : World)
    (hx : Threes w w.heap.size A xs) (hn : xs.length ≤ 9223372036854775807) (hp : PredP g lb sndV p xs w) :
    Calls Try.prog 81 #[.slice A xs.length c, .func (.func g) #[] lb] w fun e w' => e = .returned (I (idxI p xs)) ∧ Below w.heap.size w w' := by
  go_enter Try.func81, Try.ntmps81
  go_wp2
  go_loopw [8] (fun s wr => ∃ k : Nat, k ≤ xs.length ∧ s = I k ∧ Below w.heap.size w wr ∧ Hid (∀ j (h : j < xs.length), j < k → p xs[j] = false)) (fun s _ => xs.length - (intOf s).toNat)
  case atStart => exact ⟨0, Nat.zero_le _, rfl, Below.refl _ _, Lib.hid fun j _ h => by omega⟩
  case round =>
    obtain ⟨k, hk, rfl, hB, hall⟩ := hrel
    by_cases hlt : k < xs.length
    · obtain ⟨b, off, rfl, hb, hcs⟩ := (hx.below hB) (by omega)
      obtain ⟨hc1, hc2, hc3⟩ := hcs k hlt
      have hcall := hp k hlt wr hB
      rw [show sndV xs[k] = .agg #[I xs[k].1, I xs[k].2.1, I xs[k].2.2] from rfl] at hcall
      clear hcs
      cases hq : p xs[k] with
      | true =>
        have HQ := Lib.hid hq
        rw [hq] at hcall
        clear hq
        go_wp2_with (go_at_fn g; refine hcall.mono ?_; rintro e w' ⟨rfl, hb'⟩)
        go_ret
        exact ⟨ret_int (idxI_hit hlt HQ.out hall.out).symm, hB.trans (hb'.mono hB.size)⟩
      | false =>
        have HQ := Lib.hid hq
        rw [hq] at hcall
        clear hq
        go_wp2_with (go_at_fn g; refine hcall.mono ?_; rintro e w' ⟨rfl, hb'⟩)
        go_roundw
        case rel => exact ⟨k + 1, by omega, rfl, hB.trans (hb'.mono hB.size), Lib.hid fun j h hj => by
          rcases Nat.lt_succ_iff_lt_or_eq.1 hj with h1 | rfl
          · exact hall.out j h h1
          · exact HQ.out⟩
        case measure => simp [intOf]; omega
    · go_wp2
      go_ret
      exact ⟨ret_int (idxI_miss fun j h => hall.out j h (by omega)).symm, hB⟩


theorem cont61 (p : Int → Bool) (g : Nat) (lb : Array Value) (eg : ∀ args w, (callFunc g args).run Try.prog w = .ok (.enter g args) w) (A : Option Addr) (c : Nat) (xs : List (Int)) (w : World)
    (hx : Ints w w.heap.size A xs) (hn : xs.length ≤ 9223372036854775807) (hp : PredP g lb I p xs w) :
    Calls Try.prog 61 #[.slice A xs.length c, .func (.func g) #[] lb] w fun e w' => e = .returned (.bool (xs.any p)) ∧ Below w.heap.size w w' := by
  go_enter Try.func61, Try.ntmps61
  have hcon := idx76 p g lb eg A c xs w hx hn hp
  go_wp2_with (go_at_call 76; refine hcon.mono ?_; rintro e w' ⟨rfl, hb'⟩)
  go_ret
  exact ⟨by rw [idxI_any]; rfl, hb'⟩

theorem cont70 (p : Int × Int → Bool) (g : Nat) (lb : Array Value) (eg : ∀ args w, (callFunc g args).run Try.prog w = .ok (.enter g args) w) (A : Option Addr) (c : Nat) (xs : List (Int × Int)) (w : World)
    (hx : Pairs w w.heap.size A xs) (hn : xs.length ≤ 9223372036854775807) (hp : PredP g lb spanV p xs w) :
    Calls Try.prog 70 #[.slice A xs.length c, .func (.func g) #[] lb] w fun e w' => e = .returned (.bool (xs.any p)) ∧ Below w.heap.size w w' := by
  go_enter Try.func70, Try.ntmps70
  have hcon := idx73 p g lb eg A c xs w hx hn hp
  go_wp2_with (go_at_call 73; refine hcon.mono ?_; rintro e w' ⟨rfl, hb'⟩)
  go_ret
  exact ⟨by rw [idxI_any]; rfl, hb'⟩

theorem cont71 (p : Int × Int × Int → Bool) (g : Nat) (lb : Array Value) (eg : ∀ args w, (callFunc g args).run Try.prog w = .ok (.enter g args) w) (A : Option Addr) (c : Nat) (xs : List (Int × Int × Int)) (w : World)
    (hx : Threes w w.heap.size A xs) (hn : xs.length ≤ 9223372036854775807) (hp : PredP g lb sndV p xs w) :
    Calls Try.prog 71 #[.slice A xs.length c, .func (.func g) #[] lb] w fun e w' => e = .returned (.bool (xs.any p)) ∧ Below w.heap.size w w' := by
  go_enter Try.func71, Try.ntmps71
  have hcon := idx81 p g lb eg A c xs w hx hn hp
  go_wp2_with (go_at_call 81; refine hcon.mono ?_; rintro e w' ⟨rfl, hb'⟩)
  go_ret
  exact ⟨by rw [idxI_any]; rfl, hb'⟩
end Go.Proofs.Ytilmlgngnbokfaa
