/- Small functions: spans, habits, which hold among several. -/
import Derived.Test.YtijgfdncocjncaaL2
import Derived.Shelf.Abstract
namespace Go.Proofs.Ytijgfdncocjncaa
set_option linter.unusedVariables false
set_option linter.unusedSimpArgs false
open Go.RowKit

/-- The first place at which p holds, or -1. -/
def idxI {α : Type} (p : α → Bool) (xs : List α) : Int := match xs.findIdx? p with | some i => i | none => -1
theorem idxI_hit {α : Type} {p : α → Bool} {xs : List α} {k : Nat} (hk : k < xs.length) (h : p xs[k] = true) (hb : ∀ j (h : j < xs.length), j < k → p xs[j] = false) : idxI p xs = k := by
  unfold idxI
  rw [List.findIdx?_eq_some_iff_getElem.2 ⟨hk, h, fun j hj => by simp [hb j (by omega) hj]⟩]
theorem idxI_miss {α : Type} {p : α → Bool} {xs : List α} (hb : ∀ j (h : j < xs.length), p xs[j] = false) : idxI p xs = -1 := by
  unfold idxI
  rw [List.findIdx?_eq_none_iff.2 (fun x hx => by obtain ⟨i, hi, rfl⟩ := List.mem_iff_getElem.1 hx; exact hb i hi)]
theorem idxI_any {α : Type} (p : α → Bool) (xs : List α) : decide (0 ≤ idxI p xs) = xs.any p := by
  unfold idxI
  cases h : xs.findIdx? p with
  | none =>
    have := List.findIdx?_eq_none_iff.1 h
    simp only
    rw [show xs.any p = false by simpa using this]
    rfl
  | some i =>
    obtain ⟨hi, hp, _⟩ := List.findIdx?_eq_some_iff_getElem.1 h
    simp only
    rw [show xs.any p = true from List.any_eq_true.2 ⟨_, List.getElem_mem hi, hp⟩]
    simp
/-- Rows of two ints. -/
def Twos (w : World) (B : Nat) (A : Option Addr) (xs : List (Int × Int)) : Prop :=
  0 < xs.length → ∃ b off, A = some ⟨b, off, none⟩ ∧ b < B ∧ ∀ k (h : k < xs.length), w.cell? ⟨b, off + k * 2, none⟩ = some (I xs[k].1) ∧ w.cell? ⟨b, off + k * 2 + 1, none⟩ = some (I xs[k].2)
section
variable {w w' : World} {B B' : Nat} {A : Option Addr} {xs : List (Int × Int)}
theorem Twos.keep (h : Twos w B A xs) (hk : ∀ p : Addr, p.block < B → w'.cell? p = w.cell? p) : Twos w' B A xs := fun h0 => by
  obtain ⟨b, off, hA, hb, hc⟩ := h h0
  exact ⟨b, off, hA, hb, fun k hk' => ⟨(hk _ hb).trans (hc k hk').1, (hk _ hb).trans (hc k hk').2⟩⟩
theorem Twos.more (h : Twos w B A xs) (hB : B ≤ B') : Twos w B' A xs := fun h0 => by
  obtain ⟨b, off, hA, hb, hc⟩ := h h0
  exact ⟨b, off, hA, by omega, hc⟩
theorem Twos.below (h : Twos w B A xs) (hb : Below B w w') : Twos w' B A xs := h.keep fun _ hp => hb.cell hp
end
theorem within29 (n lo hi : Int) (w : World) : Calls Try.prog 29 #[I n, I lo, I hi] w fun e w' => e = .returned (.bool (inB n lo hi)) ∧ w = w' := by
  unfold inB
  cases h1 : decide (lo ≤ n) <;> cases h2 : decide (n ≤ hi)
  all_goals
    go_enter Try.func29, Try.ntmps29
    go_wp2
    go_ret
    exact ⟨rfl, rfl⟩
theorem in44 (n lo hi : Int) (w : World) : Calls Try.prog 44 #[I n, I lo, I hi] w fun e w' => e = .returned (.bool (inB n lo hi)) ∧ w = w' := by
  unfold inB
  cases h1 : decide (lo ≤ n) <;> cases h2 : decide (n ≤ hi)
  all_goals
    go_enter Try.func44, Try.ntmps44
    go_wp2
    go_ret
    exact ⟨rfl, rfl⟩
theorem has48 (a b n : Int) (w : World) : Calls Try.prog 48 #[.agg #[I a, I b], I n] w fun e w' => e = .returned (.bool (inB n a b)) ∧ Below w.heap.size w w' := by
  unfold inB
  cases h1 : decide (a ≤ n) <;> cases h2 : decide (n ≤ b)
  all_goals
    go_enter Try.func48, Try.ntmps48
    go_wp2
    go_ret
    exact ⟨rfl, below1 _ _⟩
theorem has50 (a b n : Int) (w : World) : Calls Try.prog 50 #[.agg #[I a, I b], I n] w fun e w' => e = .returned (.bool (inB n a b)) ∧ Below w.heap.size w w' := by
  unfold inB
  cases h1 : decide (a ≤ n) <;> cases h2 : decide (n ≤ b)
  all_goals
    go_enter Try.func50, Try.ntmps50
    go_wp2
    go_ret
    exact ⟨rfl, below1 _ _⟩
def habV (h : Int × Int × Int × Int) : Bool := (decide (h.2.1 < h.1) || (decide (0 ≤ h.1) && decide (h.2.1 ≤ 1048576))) && (decide (0 ≤ h.2.2.1) && (decide (h.2.2.1 ≤ h.2.2.2) && decide (h.2.2.2 ≤ 1048576)))
set_option maxHeartbeats 1000000 in
theorem hab47 (a b c d : Int) (w : World) : Calls Try.prog 47 #[.agg #[I a, I b, I c, I d]] w fun e w' => e = .returned (.bool (habV (a, b, c, d))) ∧ Below w.heap.size w w' := by
  have key : ∀ b1 b2 b3 b4 b5 b6 : Bool, decide (b < a) = b1 → decide (0 ≤ a) = b2 → decide (b ≤ 1048576) = b3 → decide (0 ≤ c) = b4 → decide (c ≤ d) = b5 → decide (d ≤ 1048576) = b6 →
      Calls Try.prog 47 #[.agg #[I a, I b, I c, I d]] w fun e w' => e = .returned (.bool ((b1 || (b2 && b3)) && (b4 && (b5 && b6)))) ∧ Below w.heap.size w w' := by
    intro b1 b2 b3 b4 b5 b6 h1 h2 h3 h4 h5 h6
    cases b1
    · cases b2
      · clear h3 h4 h5 h6
        go_enter Try.func47, Try.ntmps47
        go_wp2
        go_ret
        exact ⟨rfl, below1 _ _⟩
      · cases b3
        · clear h4 h5 h6
          go_enter Try.func47, Try.ntmps47
          go_wp2
          go_ret
          exact ⟨rfl, below1 _ _⟩
        · cases b4 <;> cases b5 <;> cases b6
          all_goals
            go_enter Try.func47, Try.ntmps47
            go_wp2
            go_ret
            exact ⟨rfl, below1 _ _⟩
    · clear h2 h3
      cases b4 <;> cases b5 <;> cases b6
      all_goals
        go_enter Try.func47, Try.ntmps47
        go_wp2
        go_ret
        exact ⟨by cases b2 <;> cases b3 <;> rfl, below1 _ _⟩
  exact key _ _ _ _ _ _ rfl rfl rfl rfl rfl rfl
theorem clo46 (a b c d : Int) (w : World) : Calls Try.prog 46 #[.agg #[I a, I b, I c, I d]] w fun e w' => e = .returned (.bool (!habV (a, b, c, d))) ∧ Below w.heap.size w w' := by
  have H : Hid (∀ W : World, Calls Try.prog 47 #[.agg #[I a, I b, I c, I d]] W fun e w' => e = .returned (.bool (habV (a, b, c, d))) ∧ Below W.heap.size W w') := Lib.hid fun W => hab47 a b c d W
  generalize habV (a, b, c, d) = v at *
  go_enter Try.func46, Try.ntmps46
  go_wp2_with (first
    | (go_at_call 47; refine (H.out _).mono ?_; rintro e w' ⟨rfl, hB⟩)
    | fail)
  go_ret
  exact ⟨rfl, (below1 w _).trans (hB.mono (by simp))⟩
set_option maxHeartbeats 400000 in
theorem idx58 (A : Option Addr) (c : Nat) (xs : List (Int × Int × Int × Int)) (w : World) (hx : Fours w w.heap.size A xs) (hn : xs.length ≤ 9223372036854775807) :
    Calls Try.prog 58 #[.slice A xs.length c, .func (.func 46) #[] #[]] w fun e w' => e = .returned (I (idxI (fun s => !habV s) xs)) ∧ Below w.heap.size w w' := by
  have H : Hid (∀ (a b c d : Int) (W : World), Calls Try.prog 46 #[.agg #[I a, I b, I c, I d]] W fun e w' => e = .returned (.bool (!habV (a, b, c, d))) ∧ Below W.heap.size W w') := Lib.hid clo46
  have HX := Lib.hid hx
  clear hx
  go_enter Try.func58, Try.ntmps58
  go_wp2
  go_loopw [8] (fun s wr => ∃ k : Nat, k ≤ xs.length ∧ s = I k ∧ Below w.heap.size w wr ∧ Hid (∀ j (h : j < xs.length), j < k → (!habV xs[j]) = false)) (fun s _ => xs.length - (intOf s).toNat)
  case atStart => exact ⟨0, Nat.zero_le _, rfl, Below.refl _ _, Lib.hid fun j _ h => by omega⟩
  case round =>
    obtain ⟨k, hk, rfl, hB, hall⟩ := hrel
    by_cases hlt : k < xs.length
    · obtain ⟨b, off, rfl, hb, hcs⟩ := (HX.out.below hB) (by omega)
      obtain ⟨hc1, hc2, hc3, hc4⟩ := hcs k hlt
      have HQ : Hid ((!habV (xs[k].1, xs[k].2.1, xs[k].2.2.1, xs[k].2.2.2)) = !habV xs[k]) := Lib.hid rfl
      have HHIT : Hid ((!habV xs[k]) = true → idxI (fun s => !habV s) xs = k) := Lib.hid fun h => idxI_hit hlt h hall.out
      have HNEX : Hid ((!habV xs[k]) = false → ∀ j (h : j < xs.length), j < k + 1 → (!habV xs[j]) = false) := Lib.hid fun e j h hj => by
        rcases Nat.lt_succ_iff_lt_or_eq.1 hj with h1 | rfl
        · exact hall.out j h h1
        · exact e
      have HC := Lib.hid (H.out xs[k].1 xs[k].2.1 xs[k].2.2.1 xs[k].2.2.2 wr)
      rw [HQ.out] at HC
      have p0 : (0 : Int) ≤ (k : Int) := by omega
      have p1 : (k : Int) < (xs.length : Int) := by omega
      clear hcs HQ
      generalize (!habV xs[k]) = q at *
      generalize xs[k].1 = v1 at *
      generalize xs[k].2.1 = v2 at *
      generalize xs[k].2.2.1 = v3 at *
      generalize xs[k].2.2.2 = v4 at *
      cases q
      · have HN := Lib.hid (HNEX.out rfl)
        clear HNEX HHIT
        go_wp2_with (first
          | (go_at_call 46; refine HC.out.mono ?_; rintro e w' ⟨rfl, hb'⟩)
          | fail)
        go_roundw
        case rel => exact ⟨k + 1, by omega, by go_num, hB.trans (hb'.mono hB.size), HN⟩
        case measure => simp [intOf]; omega
      · have HN := Lib.hid (HHIT.out rfl)
        clear HNEX HHIT
        go_wp2_with (first
          | (go_at_call 46; refine HC.out.mono ?_; rintro e w' ⟨rfl, hb'⟩)
          | fail)
        go_ret
        exact ⟨ret_int HN.out.symm, hB.trans (hb'.mono hB.size)⟩
    · have HM : Hid (idxI (fun s => !habV s) xs = -1) := Lib.hid (idxI_miss fun j h => hall.out j h (by omega))
      go_wp2
      go_ret
      exact ⟨ret_int HM.out.symm, hB⟩
theorem cont45 (A : Option Addr) (c : Nat) (xs : List (Int × Int × Int × Int)) (w : World) (hx : Fours w w.heap.size A xs) (hn : xs.length ≤ 9223372036854775807) :
    Calls Try.prog 45 #[.slice A xs.length c, .func (.func 46) #[] #[]] w fun e w' => e = .returned (.bool (xs.any fun s => !habV s)) ∧ Below w.heap.size w w' := by
  have H := Lib.hid (idx58 A c xs w hx hn)
  have HA := Lib.hid (idxI_any (fun s => !habV s) xs)
  clear hx
  generalize idxI (fun s => !habV s) xs = ix at *
  go_enter Try.func45, Try.ntmps45
  go_wp2_with (first
    | (go_at_call 58; refine H.out.mono ?_; rintro e w' ⟨rfl, hb'⟩)
    | fail)
  go_ret
  exact ⟨ret_b HA.out, hb'⟩
end Go.Proofs.Ytijgfdncocjncaa
