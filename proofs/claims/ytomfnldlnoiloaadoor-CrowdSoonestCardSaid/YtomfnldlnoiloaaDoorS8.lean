/- Visits: which are valid. -/
import Derived.Test.YtomfnldlnoiloaaDoorS2
import Derived.Shelf.Abstract
namespace Go.Proofs.YtomfnldlnoiloaaDoor
set_option linter.unusedVariables false
set_option linter.unusedSimpArgs false
open Go Go.RowKit

/-- The first place at which p holds, or -1. -/
def idxI {α : Type} (p : α → Bool) (xs : List α) : Int := match xs.findIdx? p with | some i => i | none => -1
theorem idxI_hit {α : Type} {p : α → Bool} {xs : List α} {k : Nat} (hk : k < xs.length) (h : p xs[k] = true) (hb : ∀ j (h : j < xs.length), j < k → p xs[j] = false) : idxI p xs = k := by
  unfold idxI
  rw [List.findIdx?_eq_some_iff_getElem.2 ⟨hk, h, fun j hj => by simp [hb j (by omega) hj]⟩]
theorem idxI_miss {α : Type} {p : α → Bool} {xs : List α} (hb : ∀ j (h : j < xs.length), p xs[j] = false) : idxI p xs = -1 := by
  unfold idxI
  rw [List.findIdx?_eq_none_iff.2 (fun x hx => by obtain ⟨i, hi, rfl⟩ := List.mem_iff_getElem.1 hx; exact hb i hi)]
theorem idxI_any {α : Type} (p : α → Bool) (xs : List α) : decide (0 ≤ idxI p xs) = xs.any p := by
  unfold idxI
  cases h : xs.findIdx? p with
  | none =>
    have := List.findIdx?_eq_none_iff.1 h
    simp only
    rw [show xs.any p = false by simpa using this]
    rfl
  | some i =>
    obtain ⟨hi, hp, _⟩ := List.findIdx?_eq_some_iff_getElem.1 h
    simp only
    rw [show xs.any p = true from List.any_eq_true.2 ⟨_, List.getElem_mem hi, hp⟩]
    simp
/-- What is asked of a predicate. -/
def PredP {α : Type} (g : Nat) (lb : Array Value) (enc : α → Value) (p : α → Bool) (xs : List α) (w : World) : Prop :=
  ∀ i (h : i < xs.length) W, Below w.heap.size w W → Calls Tryd.prog g (#[enc xs[i]] ++ lb) W fun e w' => e = .returned (.bool (p xs[i])) ∧ Below W.heap.size W w'
def intV (z : Int) : Value := I z
def trlV (s : Int × Int × Int × Int) : Value := .agg #[I s.1, I s.2.1, I s.2.2.1, I s.2.2.2]
def arrV (s : Int × Int × Int) : Value := .agg #[I s.1, I s.2.1, I s.2.2]

set_option maxHeartbeats 800000 in
theorem idx78 (p : Int → Bool) (g : Nat) (lb : Array Value) (eg : ∀ args w, (callFunc g args).run Tryd.prog w = .ok (.enter g args) w) (A : Option Addr) (c : Nat) (xs : List (Int)) (w : World)
    (hx : Ints w w.heap.size A xs) (hn : xs.length ≤ 9223372036854775807) (hp : PredP g lb intV p xs w) :
    Calls Tryd.prog 78 #[.slice A xs.length c, .func (.func g) #[] lb] w fun e w' => e = .returned (I (idxI p xs)) ∧ Below w.heap.size w w' := by
  go_enter Tryd.func78, Tryd.ntmps78
  go_wp2
  go_loopw [8] (fun s wr => ∃ k : Nat, k ≤ xs.length ∧ s = I k ∧ Below w.heap.size w wr ∧ Hid (∀ j (h : j < xs.length), j < k → p xs[j] = false)) (fun s _ => xs.length - (intOf s).toNat)
  case atStart => exact ⟨0, Nat.zero_le _, rfl, Below.refl _ _, Lib.hid fun j _ h => by omega⟩
  case round =>
    obtain ⟨k, hk, rfl, hB, hall⟩ := hrel
    by_cases hlt : k < xs.length
    · obtain ⟨b, off, rfl, hb, hcs⟩ := (hx.below hB) (by omega)
      obtain hc1 := hcs k hlt
      have hcall := hp k hlt wr hB
      rw [show intV xs[k] = I xs[k] from rfl] at hcall
      clear hcs
      cases hq : p xs[k] with
      | true =>
        have HQ := Lib.hid hq
        rw [hq] at hcall
        clear hq
        go_wp2_with (go_at_fn g; refine hcall.mono ?_; rintro e w' ⟨rfl, hb'⟩)
        go_ret
        exact ⟨ret_int (idxI_hit hlt HQ.out hall.out).symm, hB.trans (hb'.mono hB.size)⟩
      | false =>
        have HQ := Lib.hid hq
        rw [hq] at hcall
        clear hq
        go_wp2_with (go_at_fn g; refine hcall.mono ?_; rintro e w' ⟨rfl, hb'⟩)
        go_roundw
        case rel => exact ⟨k + 1, by omega, rfl, hB.trans (hb'.mono hB.size), Lib.hid fun j h hj => by
          rcases Nat.lt_succ_iff_lt_or_eq.1 hj with h1 | rfl
          · exact hall.out j h h1
          · exact HQ.out⟩
        case measure => simp [intOf]; omega
    · go_wp2
      go_ret
      exact ⟨ret_int (idxI_miss fun j h => hall.out j h (by omega)).symm, hB⟩
theorem cont64 (p : Int → Bool) (g : Nat) (lb : Array Value) (eg : ∀ args w, (callFunc g args).run Tryd.prog w = .ok (.enter g args) w) (A : Option Addr) (c : Nat) (xs : List (Int)) (w : World)
    (hx : Ints w w.heap.size A xs) (hn : xs.length ≤ 9223372036854775807) (hp : PredP g lb intV p xs w) :
    Calls Tryd.prog 64 #[.slice A xs.length c, .func (.func g) #[] lb] w fun e w' => e = .returned (.bool (xs.any p)) ∧ Below w.heap.size w w' := by
  go_enter Tryd.func64, Tryd.ntmps64
  have hcon := idx78 p g lb eg A c xs w hx hn hp
  go_wp2_with (go_at_call 78; refine hcon.mono ?_; rintro e w' ⟨rfl, hb'⟩)
  go_ret
  exact ⟨by rw [idxI_any]; rfl, hb'⟩

set_option maxHeartbeats 800000 in
theorem idx79 (p : Int × Int × Int × Int → Bool) (g : Nat) (lb : Array Value) (eg : ∀ args w, (callFunc g args).run Tryd.prog w = .ok (.enter g args) w) (A : Option Addr) (c : Nat) (xs : List (Int × Int × Int × Int)) (w : World)
    (hx : Fours w w.heap.size A xs) (hn : xs.length ≤ 9223372036854775807) (hp : PredP g lb trlV p xs w) :
    Calls Tryd.prog 79 #[.slice A xs.length c, .func (.func g) #[] lb] w fun e w' => e = .returned (I (idxI p xs)) ∧ Below w.heap.size w w' := by
  go_enter Tryd.func79, Tryd.ntmps79
  go_wp2
  go_loopw [8] (fun s wr => ∃ k : Nat, k ≤ xs.length ∧ s = I k ∧ Below w.heap.size w wr ∧ Hid (∀ j (h : j < xs.length), j < k → p xs[j] = false)) (fun s _ => xs.length - (intOf s).toNat)
  case atStart => exact ⟨0, Nat.zero_le _, rfl, Below.refl _ _, Lib.hid fun j _ h => by omega⟩
  case round =>
    obtain ⟨k, hk, rfl, hB, hall⟩ := hrel
    by_cases hlt : k < xs.length
    · obtain ⟨b, off, rfl, hb, hcs⟩ := (hx.below hB) (by omega)
      obtain ⟨hc1, hc2, hc3, hc4⟩ := hcs k hlt
      have hcall := hp k hlt wr hB
      rw [show trlV xs[k] = .agg #[I xs[k].1, I xs[k].2.1, I xs[k].2.2.1, I xs[k].2.2.2] from rfl] at hcall
      clear hcs
      cases hq : p xs[k] with
      | true =>
        have HQ := Lib.hid hq
        rw [hq] at hcall
        clear hq
        go_wp2_with (go_at_fn g; refine hcall.mono ?_; rintro e w' ⟨rfl, hb'⟩)
        go_ret
        exact ⟨ret_int (idxI_hit hlt HQ.out hall.out).symm, hB.trans (hb'.mono hB.size)⟩
      | false =>
        have HQ := Lib.hid hq
        rw [hq] at hcall
        clear hq
        go_wp2_with (go_at_fn g; refine hcall.mono ?_; rintro e w' ⟨rfl, hb'⟩)
        go_roundw
        case rel => exact ⟨k + 1, by omega, rfl, hB.trans (hb'.mono hB.size), Lib.hid fun j h hj => by
          rcases Nat.lt_succ_iff_lt_or_eq.1 hj with h1 | rfl
          · exact hall.out j h h1
          · exact HQ.out⟩
        case measure => simp [intOf]; omega
    · go_wp2
      go_ret
      exact ⟨ret_int (idxI_miss fun j h => hall.out j h (by omega)).symm, hB⟩
theorem cont65 (p : Int × Int × Int × Int → Bool) (g : Nat) (lb : Array Value) (eg : ∀ args w, (callFunc g args).run Tryd.prog w = .ok (.enter g args) w) (A : Option Addr) (c : Nat) (xs : List (Int × Int × Int × Int)) (w : World)
    (hx : Fours w w.heap.size A xs) (hn : xs.length ≤ 9223372036854775807) (hp : PredP g lb trlV p xs w) :
    Calls Tryd.prog 65 #[.slice A xs.length c, .func (.func g) #[] lb] w fun e w' => e = .returned (.bool (xs.any p)) ∧ Below w.heap.size w w' := by
  go_enter Tryd.func65, Tryd.ntmps65
  have hcon := idx79 p g lb eg A c xs w hx hn hp
  go_wp2_with (go_at_call 79; refine hcon.mono ?_; rintro e w' ⟨rfl, hb'⟩)
  go_ret
  exact ⟨by rw [idxI_any]; rfl, hb'⟩

set_option maxHeartbeats 800000 in
theorem idx80 (p : Int × Int × Int → Bool) (g : Nat) (lb : Array Value) (eg : ∀ args w, (callFunc g args).run Tryd.prog w = .ok (.enter g args) w) (A : Option Addr) (c : Nat) (xs : List (Int × Int × Int)) (w : World)
    (hx : Threes w w.heap.size A xs) (hn : xs.length ≤ 9223372036854775807) (hp : PredP g lb arrV p xs w) :
    Calls Tryd.prog 80 #[.slice A xs.length c, .func (.func g) #[] lb] w fun e w' => e = .returned (I (idxI p xs)) ∧ Below w.heap.size w w' := by
  go_enter Tryd.func80, Tryd.ntmps80
  go_wp2
  go_loopw [8] (fun s wr => ∃ k : Nat, k ≤ xs.length ∧ s = I k ∧ Below w.heap.size w wr ∧ Hid (∀ j (h : j < xs.length), j < k → p xs[j] = false)) (fun s _ => xs.length - (intOf s).toNat)
  case atStart => exact ⟨0, Nat.zero_le _, rfl, Below.refl _ _, Lib.hid fun j _ h => by omega⟩
  case round =>
    obtain ⟨k, hk, rfl, hB, hall⟩ := hrel
    by_cases hlt : k < xs.length
    · obtain ⟨b, off, rfl, hb, hcs⟩ := (hx.below hB) (by omega)
      obtain ⟨hc1, hc2, hc3⟩ := hcs k hlt
      have hcall := hp k hlt wr hB
      rw [show arrV xs[k] = .agg #[I xs[k].1, I xs[k].2.1, I xs[k].2.2] from rfl] at hcall
      clear hcs
      cases hq : p xs[k] with
      | true =>
        have HQ := Lib.hid hq
        rw [hq] at hcall
        clear hq
        go_wp2_with (go_at_fn g; refine hcall.mono ?_; rintro e w' ⟨rfl, hb'⟩)
        go_ret
        exact ⟨ret_int (idxI_hit hlt HQ.out hall.out).symm, hB.trans (hb'.mono hB.size)⟩
      | false =>
        have HQ := Lib.hid hq
        rw [hq] at hcall
        clear hq
        go_wp2_with (go_at_fn g; refine hcall.mono ?_; rintro e w' ⟨rfl, hb'⟩)
        go_roundw
        case rel => exact ⟨k + 1, by omega, rfl, hB.trans (hb'.mono hB.size), Lib.hid fun j h hj => by
          rcases Nat.lt_succ_iff_lt_or_eq.1 hj with h1 | rfl
          · exact hall.out j h h1
          · exact HQ.out⟩
        case measure => simp [intOf]; omega
    · go_wp2
      go_ret
      exact ⟨ret_int (idxI_miss fun j h => hall.out j h (by omega)).symm, hB⟩
theorem cont66 (p : Int × Int × Int → Bool) (g : Nat) (lb : Array Value) (eg : ∀ args w, (callFunc g args).run Tryd.prog w = .ok (.enter g args) w) (A : Option Addr) (c : Nat) (xs : List (Int × Int × Int)) (w : World)
    (hx : Threes w w.heap.size A xs) (hn : xs.length ≤ 9223372036854775807) (hp : PredP g lb arrV p xs w) :
    Calls Tryd.prog 66 #[.slice A xs.length c, .func (.func g) #[] lb] w fun e w' => e = .returned (.bool (xs.any p)) ∧ Below w.heap.size w w' := by
  go_enter Tryd.func66, Tryd.ntmps66
  have hcon := idx80 p g lb eg A c xs w hx hn hp
  go_wp2_with (go_at_call 80; refine hcon.mono ?_; rintro e w' ⟨rfl, hb'⟩)
  go_ret
  exact ⟨by rw [idxI_any]; rfl, hb'⟩

set_option maxHeartbeats 400000 in
theorem within35 (n lo hi : Int) (w : World) : Calls Tryd.prog 35 #[I n, I lo, I hi] w fun e w' => e = .returned (.bool (inB n lo hi)) ∧ w = w' := by
  go_enter Tryd.func35, Tryd.ntmps35
  go_wp2
  all_goals
    go_ret
    exact ⟨ret_b (by rw [Bool.eq_iff_iff]; simp [inB]; omega), rfl⟩
set_option maxHeartbeats 400000 in
theorem in39 (n lo hi : Int) (w : World) : Calls Tryd.prog 39 #[I n, I lo, I hi] w fun e w' => e = .returned (.bool (inB n lo hi)) ∧ w = w' := by
  go_enter Tryd.func39, Tryd.ntmps39
  go_wp2
  all_goals
    go_ret
    exact ⟨ret_b (by rw [Bool.eq_iff_iff]; simp [inB]; omega), rfl⟩
theorem isMinute36 (n : Int) (w : World) : Calls Tryd.prog 36 #[I n] w fun e w' => e = .returned (.bool (inB n 0 60)) ∧ w = w' := by
  have H := within35 n 0 60 w
  go_enter Tryd.func36, Tryd.ntmps36
  go_wp2_with (go_at_call 35; refine H.mono ?_; rintro e w1 ⟨rfl, rfl⟩)
  go_ret
  exact ⟨rfl, rfl⟩
theorem isRoom61 (n : Int) (w : World) : Calls Tryd.prog 61 #[I n] w fun e w' => e = .returned (.bool (inB n 0 1000)) ∧ w = w' := by
  have H := within35 n 0 1000 w
  go_enter Tryd.func61, Tryd.ntmps61
  go_wp2_with (go_at_call 35; refine H.mono ?_; rintro e w1 ⟨rfl, rfl⟩)
  go_ret
  exact ⟨rfl, rfl⟩
theorem clo63 (n : Int) (w : World) : Calls Tryd.prog 63 #[I n] w fun e w' => e = .returned (.bool (!inB n 0 1000)) ∧ w = w' := by
  have H := isRoom61 n w
  go_enter Tryd.func63, Tryd.ntmps63
  go_wp2_with (go_at_call 61; refine H.mono ?_; rintro e w1 ⟨rfl, rfl⟩)
  go_ret
  exact ⟨rfl, rfl⟩
theorem clo59 (z : Int) (n bn : Nat) (w : World) (hn : n ≤ 1000000) (hc : w.cell? ⟨bn, 0, none⟩ = some (I n)) : Calls Tryd.prog 59 #[I z, ptr bn] w fun e w' => e = .returned (.bool (inB z 0 ((n : Int) - 1))) ∧ w = w' := by
  have H := within35 z 0 ((n : Int) - 1) w
  have hw : IntKind.i64.wrap ((n : Int) - 1) = (n : Int) - 1 := IntWalk.i64_in _ (by omega)
  go_enter Tryd.func59, Tryd.ntmps59
  go_wp2_with (go_at_call 35; refine H.mono ?_; rintro e w1 ⟨rfl, rfl⟩)
  go_ret
  exact ⟨rfl, rfl⟩
def trBad (n : Int) (x : Int × Int × Int × Int) : Bool := !inB x.1 0 (n - 1) || !inB x.2.1 0 (n - 1) || (x.1 == x.2.1) || !inB x.2.2.1 1 60 || !inB x.2.2.2 0 1000
set_option maxRecDepth 100000 in
set_option maxHeartbeats 2000000 in
theorem clo60 (x : Int × Int × Int × Int) (n bn bc : Nat) (w : World) (hn : n ≤ 1000000) (hc : w.cell? ⟨bn, 0, none⟩ = some (I n)) (hcc : w.cell? ⟨bc, 0, none⟩ = some (.func (.func 59) #[] #[ptr bn])) (hb : bn < w.heap.size) (hb2 : bc < w.heap.size) :
    Calls Tryd.prog 60 #[trlV x, ptr bc] w fun e w' => e = .returned (.bool (trBad n x)) ∧ Below w.heap.size w w' := by
  obtain ⟨f, g, d, r⟩ := x
  rw [show trlV (f, g, d, r) = .agg #[I f, I g, I d, I r] from rfl]
  have hc' := (World.cell?_alloc_lt w (.cells #[I f, I g, I d, I r] 51) ⟨bn, 0, none⟩ hb).trans hc
  have key : ∀ b1 b2 b3 b4 b5 : Bool, inB f 0 ((n : Int) - 1) = b1 → inB g 0 ((n : Int) - 1) = b2 → (f == g) = b3 → inB d 1 60 = b4 → inB r 0 1000 = b5 →
      Calls Tryd.prog 60 #[.agg #[I f, I g, I d, I r], ptr bc] w fun e w' => e = .returned (.bool (!b1 || !b2 || b3 || !b4 || !b5)) ∧ Below w.heap.size w w' := by
    intro b1 b2 b3 b4 b5 hb1 hb2 hb3 hb4 hb5
    cases b1
    · go_enter Tryd.func60, Tryd.ntmps60
      go_wp2_with (first
      | (go_at_call 59; refine (clo59 _ n bn _ hn hc').mono ?_; rintro e w1 ⟨rfl, rfl⟩)
      | (go_at_call 35; refine (within35 _ _ _ _).mono ?_; rintro e w1 ⟨rfl, rfl⟩)
      | (go_at_call 36; refine (isMinute36 _ _).mono ?_; rintro e w1 ⟨rfl, rfl⟩)
      | (go_at_call 61; refine (isRoom61 _ _).mono ?_; rintro e w1 ⟨rfl, rfl⟩)
      | fail)
      go_ret
      exact ⟨by simp, by (repeat' (first | assumption | exact Below.refl _ _ | refine Below.drew ?_ | refine below_drewN ?_ _ | refine Below.setCell ?_ (by first | omega | (simp; done) | (simp; omega)) _ | refine Below.alloc ?_ (by first | omega | (simp; done) | (simp; omega)) _ | refine Below.trans ?_ (Below.mono (by assumption) (by first | omega | (simp; done) | (simp; omega)))))⟩
    cases b2
    · go_enter Tryd.func60, Tryd.ntmps60
      go_wp2_with (first
      | (go_at_call 59; refine (clo59 _ n bn _ hn hc').mono ?_; rintro e w1 ⟨rfl, rfl⟩)
      | (go_at_call 35; refine (within35 _ _ _ _).mono ?_; rintro e w1 ⟨rfl, rfl⟩)
      | (go_at_call 36; refine (isMinute36 _ _).mono ?_; rintro e w1 ⟨rfl, rfl⟩)
      | (go_at_call 61; refine (isRoom61 _ _).mono ?_; rintro e w1 ⟨rfl, rfl⟩)
      | fail)
      go_ret
      exact ⟨by simp, by (repeat' (first | assumption | exact Below.refl _ _ | refine Below.drew ?_ | refine below_drewN ?_ _ | refine Below.setCell ?_ (by first | omega | (simp; done) | (simp; omega)) _ | refine Below.alloc ?_ (by first | omega | (simp; done) | (simp; omega)) _ | refine Below.trans ?_ (Below.mono (by assumption) (by first | omega | (simp; done) | (simp; omega)))))⟩
    cases b3
    rotate_left
    · go_enter Tryd.func60, Tryd.ntmps60
      go_wp2_with (first
      | (go_at_call 59; refine (clo59 _ n bn _ hn hc').mono ?_; rintro e w1 ⟨rfl, rfl⟩)
      | (go_at_call 35; refine (within35 _ _ _ _).mono ?_; rintro e w1 ⟨rfl, rfl⟩)
      | (go_at_call 36; refine (isMinute36 _ _).mono ?_; rintro e w1 ⟨rfl, rfl⟩)
      | (go_at_call 61; refine (isRoom61 _ _).mono ?_; rintro e w1 ⟨rfl, rfl⟩)
      | fail)
      go_ret
      exact ⟨by simp, by (repeat' (first | assumption | exact Below.refl _ _ | refine Below.drew ?_ | refine below_drewN ?_ _ | refine Below.setCell ?_ (by first | omega | (simp; done) | (simp; omega)) _ | refine Below.alloc ?_ (by first | omega | (simp; done) | (simp; omega)) _ | refine Below.trans ?_ (Below.mono (by assumption) (by first | omega | (simp; done) | (simp; omega)))))⟩
    cases b4
    · go_enter Tryd.func60, Tryd.ntmps60
      go_wp2_with (first
      | (go_at_call 59; refine (clo59 _ n bn _ hn hc').mono ?_; rintro e w1 ⟨rfl, rfl⟩)
      | (go_at_call 35; refine (within35 _ _ _ _).mono ?_; rintro e w1 ⟨rfl, rfl⟩)
      | (go_at_call 36; refine (isMinute36 _ _).mono ?_; rintro e w1 ⟨rfl, rfl⟩)
      | (go_at_call 61; refine (isRoom61 _ _).mono ?_; rintro e w1 ⟨rfl, rfl⟩)
      | fail)
      go_ret
      exact ⟨by simp, by (repeat' (first | assumption | exact Below.refl _ _ | refine Below.drew ?_ | refine below_drewN ?_ _ | refine Below.setCell ?_ (by first | omega | (simp; done) | (simp; omega)) _ | refine Below.alloc ?_ (by first | omega | (simp; done) | (simp; omega)) _ | refine Below.trans ?_ (Below.mono (by assumption) (by first | omega | (simp; done) | (simp; omega)))))⟩
    go_enter Tryd.func60, Tryd.ntmps60
    go_wp2_with (first
      | (go_at_call 59; refine (clo59 _ n bn _ hn hc').mono ?_; rintro e w1 ⟨rfl, rfl⟩)
      | (go_at_call 35; refine (within35 _ _ _ _).mono ?_; rintro e w1 ⟨rfl, rfl⟩)
      | (go_at_call 36; refine (isMinute36 _ _).mono ?_; rintro e w1 ⟨rfl, rfl⟩)
      | (go_at_call 61; refine (isRoom61 _ _).mono ?_; rintro e w1 ⟨rfl, rfl⟩)
      | fail)
    go_ret
    exact ⟨by cases b5 <;> simp_all, by (repeat' (first | assumption | exact Below.refl _ _ | refine Below.drew ?_ | refine below_drewN ?_ _ | refine Below.setCell ?_ (by first | omega | (simp; done) | (simp; omega)) _ | refine Below.alloc ?_ (by first | omega | (simp; done) | (simp; omega)) _ | refine Below.trans ?_ (Below.mono (by assumption) (by first | omega | (simp; done) | (simp; omega)))))⟩
  exact (key _ _ _ _ _ rfl rfl rfl rfl rfl).mono fun e w' h => h
def arBad (n : Int) (x : Int × Int × Int) : Bool := !inB x.1 0 60 || !inB x.2.1 0 (n - 1) || !inB x.2.2 0 1000
set_option maxRecDepth 100000 in
set_option maxHeartbeats 2000000 in
theorem clo62 (x : Int × Int × Int) (n bn bc : Nat) (w : World) (hn : n ≤ 1000000) (hc : w.cell? ⟨bn, 0, none⟩ = some (I n)) (hcc : w.cell? ⟨bc, 0, none⟩ = some (.func (.func 59) #[] #[ptr bn])) (hb : bn < w.heap.size) (hb2 : bc < w.heap.size) :
    Calls Tryd.prog 62 #[arrV x, ptr bc] w fun e w' => e = .returned (.bool (arBad n x)) ∧ Below w.heap.size w w' := by
  obtain ⟨f, g, d⟩ := x
  rw [show arrV (f, g, d) = .agg #[I f, I g, I d] from rfl]
  have hc' := (World.cell?_alloc_lt w (.cells #[I f, I g, I d] 49) ⟨bn, 0, none⟩ hb).trans hc
  have key : ∀ b1 b2 b3 : Bool, inB f 0 60 = b1 → inB g 0 ((n : Int) - 1) = b2 → inB d 0 1000 = b3 →
      Calls Tryd.prog 62 #[.agg #[I f, I g, I d], ptr bc] w fun e w' => e = .returned (.bool (!b1 || !b2 || !b3)) ∧ Below w.heap.size w w' := by
    intro b1 b2 b3 hb1 hb2 hb3
    cases b1
    · go_enter Tryd.func62, Tryd.ntmps62
      go_wp2_with (first
      | (go_at_call 59; refine (clo59 _ n bn _ hn hc').mono ?_; rintro e w1 ⟨rfl, rfl⟩)
      | (go_at_call 35; refine (within35 _ _ _ _).mono ?_; rintro e w1 ⟨rfl, rfl⟩)
      | (go_at_call 36; refine (isMinute36 _ _).mono ?_; rintro e w1 ⟨rfl, rfl⟩)
      | (go_at_call 61; refine (isRoom61 _ _).mono ?_; rintro e w1 ⟨rfl, rfl⟩)
      | fail)
      go_ret
      exact ⟨by simp, by (repeat' (first | assumption | exact Below.refl _ _ | refine Below.drew ?_ | refine below_drewN ?_ _ | refine Below.setCell ?_ (by first | omega | (simp; done) | (simp; omega)) _ | refine Below.alloc ?_ (by first | omega | (simp; done) | (simp; omega)) _ | refine Below.trans ?_ (Below.mono (by assumption) (by first | omega | (simp; done) | (simp; omega)))))⟩
    cases b2
    · go_enter Tryd.func62, Tryd.ntmps62
      go_wp2_with (first
      | (go_at_call 59; refine (clo59 _ n bn _ hn hc').mono ?_; rintro e w1 ⟨rfl, rfl⟩)
      | (go_at_call 35; refine (within35 _ _ _ _).mono ?_; rintro e w1 ⟨rfl, rfl⟩)
      | (go_at_call 36; refine (isMinute36 _ _).mono ?_; rintro e w1 ⟨rfl, rfl⟩)
      | (go_at_call 61; refine (isRoom61 _ _).mono ?_; rintro e w1 ⟨rfl, rfl⟩)
      | fail)
      go_ret
      exact ⟨by simp, by (repeat' (first | assumption | exact Below.refl _ _ | refine Below.drew ?_ | refine below_drewN ?_ _ | refine Below.setCell ?_ (by first | omega | (simp; done) | (simp; omega)) _ | refine Below.alloc ?_ (by first | omega | (simp; done) | (simp; omega)) _ | refine Below.trans ?_ (Below.mono (by assumption) (by first | omega | (simp; done) | (simp; omega)))))⟩
    go_enter Tryd.func62, Tryd.ntmps62
    go_wp2_with (first
      | (go_at_call 59; refine (clo59 _ n bn _ hn hc').mono ?_; rintro e w1 ⟨rfl, rfl⟩)
      | (go_at_call 35; refine (within35 _ _ _ _).mono ?_; rintro e w1 ⟨rfl, rfl⟩)
      | (go_at_call 36; refine (isMinute36 _ _).mono ?_; rintro e w1 ⟨rfl, rfl⟩)
      | (go_at_call 61; refine (isRoom61 _ _).mono ?_; rintro e w1 ⟨rfl, rfl⟩)
      | fail)
    go_ret
    exact ⟨by cases b3 <;> simp_all, by (repeat' (first | assumption | exact Below.refl _ _ | refine Below.drew ?_ | refine below_drewN ?_ _ | refine Below.setCell ?_ (by first | omega | (simp; done) | (simp; omega)) _ | refine Below.alloc ?_ (by first | omega | (simp; done) | (simp; omega)) _ | refine Below.trans ?_ (Below.mono (by assumption) (by first | omega | (simp; done) | (simp; omega)))))⟩
  exact (key _ _ _ rfl rfl rfl).mono fun e w' h => h
end Go.Proofs.YtomfnldlnoiloaaDoor
