/- The document, of the program: are two rows alike? Is a link one of a watch? -/
import Derived.Test.YtijgfdncocjncaaS19
import Derived.BigQuiet
import Derived.Laws.StructEq
namespace Go.Proofs.Ytijgfdncocjncaa
set_option linter.unusedVariables false
set_option linter.unusedSimpArgs false
open Go Go.RowKit

set_option maxRecDepth 100000 in
set_option maxHeartbeats 1000000 in
theorem ints14 (A B : Option Addr) (c d : Nat) (xs ys : List Int) (w : World) (hx : Ints w w.heap.size A xs) (hy : Ints w w.heap.size B ys) (hxl : xs.length ≤ 9223372036854775807) (hyl : ys.length ≤ 9223372036854775807) :
    Calls Try.prog 14 #[.slice A xs.length c, .slice B ys.length d] w fun e w' => e = .returned (.bool (decide (xs = ys))) ∧ Below w.heap.size w w' := by
  have HX := Lib.hid hx
  have HY := Lib.hid hy
  have HL : Hid (xs.length ≠ ys.length → decide (xs = ys) = false) := Lib.hid fun h => decide_eq_false fun e => h (by rw [e])
  have HE : Hid (xs.length = ys.length → (∀ j (h : j < xs.length) (h' : j < ys.length), xs[j] = ys[j]) → decide (xs = ys) = true) := Lib.hid fun h h' => decide_eq_true (List.ext_getElem h h')
  have HD : Hid (∀ j (h : j < xs.length) (h' : j < ys.length), xs[j] ≠ ys[j] → decide (xs = ys) = false) := Lib.hid fun j h h' hne => decide_eq_false fun e => hne (by subst e; rfl)
  generalize decide (xs = ys) = mb at *
  clear hx hy
  by_cases hl : xs.length = ys.length
  · have hlb : (((xs.length : Int)) != (ys.length : Int)) = false := by simp [hl]
    have hlb2 : (xs.length != ys.length) = false := by simp [hl]
    have HLL := Lib.hid hl
    clear hl
    go_enter Try.func14, Try.ntmps14
    go_wp2
    go_loopw [5] (fun s wr => ∃ k : Nat, k ≤ xs.length ∧ s = I k ∧ Below w.heap.size w wr ∧ Hid (∀ j (h : j < xs.length) (h' : j < ys.length), j < k → xs[j] = ys[j])) (fun s _ => xs.length - (intOf s).toNat)
    case atStart => exact ⟨0, by omega, rfl, Below.refl _ _, Lib.hid fun j _ _ h => by omega⟩
    case round =>
      obtain ⟨k, hk, rfl, hB, HA⟩ := hrel
      by_cases hlt : k < xs.length
      · have hlt2 : k < ys.length := by have := HLL.out; omega
        obtain ⟨b1, o1, rfl, hbz1, hc1⟩ := (HX.out.below hB) (by omega)
        obtain ⟨b2, o2, rfl, hbz2, hc2⟩ := (HY.out.below hB) (by omega)
        have x0 := hc1 k hlt
        have y0 := hc2 k hlt2
        have HDk := Lib.hid (HD.out k hlt hlt2)
        have HST : Hid (xs[k] = ys[k] → ∀ j (h : j < xs.length) (h' : j < ys.length), j < k + 1 → xs[j] = ys[j]) := Lib.hid fun e j h h' hj => by
          rcases Nat.lt_succ_iff_lt_or_eq.1 hj with h1 | rfl
          · exact HA.out j h h' h1
          · exact e
        generalize xs[k] = x at *
        generalize ys[k] = y at *
        have b0 : (0 : Int) ≤ (k : Int) := by omega
        have b1' : (k : Int) < (xs.length : Int) := by omega
        have b2' : (k : Int) < (ys.length : Int) := by omega
        clear hc1 hc2
        by_cases he : x = y
        · have heb : (x != y) = false := by simpa using he
          have HE1 := Lib.hid he
          clear he
          go_wp2_with (fail)
          go_quiet (fail)
          go_wp2
          go_roundw
          case rel => exact ⟨k + 1, by omega, by go_num, (by first | exact hB | exact below_drewN hB _), Lib.hid (HST.out HE1.out)⟩
          case measure => first | (simp [intOf]; done) | (simp [intOf]; omega)
        · have heb : (x != y) = true := by simpa using he
          have HE1 := Lib.hid he
          clear he
          go_wp2_with (fail)
          go_quiet (fail)
          go_wp2
          go_ret
          exact ⟨ret_b (HDk.out HE1.out).symm, by first | exact hB | exact below_drewN hB _⟩
      · have HE1 := Lib.hid (HE.out HLL.out (fun j h h' => HA.out j h h' (by omega)))
        go_wp2
        go_ret
        exact ⟨ret_b HE1.out.symm, by first | exact hB | exact below_drewN hB _⟩
  · have hlb : (((xs.length : Int)) != (ys.length : Int)) = true := by simp; omega
    have hlb2 : (xs.length != ys.length) = true := by simpa using hl
    have HL1 := Lib.hid (HL.out hl)
    clear hl
    go_enter Try.func14, Try.ntmps14
    go_wp2
    go_ret
    exact ⟨ret_b HL1.out.symm, Below.refl _ _⟩

theorem eq27 (a b c d : Int) (w : World) : (Op.equalIn 10000 27 (.agg #[I a, I b]) (.agg #[I c, I d])).run Try.prog w = .ok (decide (a = c ∧ b = d)) w := by
  have u3 := Try.underlying3
  have u27 := Try.underlying27
  go_simp
  by_cases h1 : a = c <;> by_cases h2 : b = d <;> simp [h1, h2]
set_option maxRecDepth 100000 in
set_option maxHeartbeats 1000000 in
theorem links19 (A B : Option Addr) (c d : Nat) (xs ys : List (Int × Int)) (w : World) (hx : Twos w w.heap.size A xs) (hy : Twos w w.heap.size B ys) (hxl : xs.length ≤ 9223372036854775807) (hyl : ys.length ≤ 9223372036854775807) :
    Calls Try.prog 19 #[.slice A xs.length c, .slice B ys.length d] w fun e w' => e = .returned (.bool (decide (xs = ys))) ∧ Below w.heap.size w w' := by
  have HX := Lib.hid hx
  have HY := Lib.hid hy
  have HL : Hid (xs.length ≠ ys.length → decide (xs = ys) = false) := Lib.hid fun h => decide_eq_false fun e => h (by rw [e])
  have HE : Hid (xs.length = ys.length → (∀ j (h : j < xs.length) (h' : j < ys.length), xs[j] = ys[j]) → decide (xs = ys) = true) := Lib.hid fun h h' => decide_eq_true (List.ext_getElem h h')
  have HD : Hid (∀ j (h : j < xs.length) (h' : j < ys.length), xs[j] ≠ ys[j] → decide (xs = ys) = false) := Lib.hid fun j h h' hne => decide_eq_false fun e => hne (by subst e; rfl)
  have u27 := Try.underlying27
  generalize decide (xs = ys) = mb at *
  clear hx hy
  by_cases hl : xs.length = ys.length
  · have hlb : (((xs.length : Int)) != (ys.length : Int)) = false := by simp [hl]
    have hlb2 : (xs.length != ys.length) = false := by simp [hl]
    have HLL := Lib.hid hl
    clear hl
    go_enter Try.func19, Try.ntmps19
    go_wp2
    go_loopw [5] (fun s wr => ∃ k : Nat, k ≤ xs.length ∧ s = I k ∧ Below w.heap.size w wr ∧ Hid (∀ j (h : j < xs.length) (h' : j < ys.length), j < k → xs[j] = ys[j])) (fun s _ => xs.length - (intOf s).toNat)
    case atStart => exact ⟨0, by omega, rfl, Below.refl _ _, Lib.hid fun j _ _ h => by omega⟩
    case round =>
      obtain ⟨k, hk, rfl, hB, HA⟩ := hrel
      by_cases hlt : k < xs.length
      · have hlt2 : k < ys.length := by have := HLL.out; omega
        obtain ⟨b1, o1, rfl, hbz1, hc1⟩ := (HX.out.below hB) (by omega)
        obtain ⟨b2, o2, rfl, hbz2, hc2⟩ := (HY.out.below hB) (by omega)
        obtain ⟨x0, x1⟩ := hc1 k hlt
        obtain ⟨y0, y1⟩ := hc2 k hlt2
        have HDk : Hid (¬ (xs[k].1 = ys[k].1 ∧ xs[k].2 = ys[k].2) → mb = false) := Lib.hid fun h => HD.out k hlt hlt2 fun e => h (by rw [e]; exact ⟨rfl, rfl⟩)
        have HST : Hid (xs[k].1 = ys[k].1 ∧ xs[k].2 = ys[k].2 → ∀ j (h : j < xs.length) (h' : j < ys.length), j < k + 1 → xs[j] = ys[j]) := Lib.hid fun e j h h' hj => by
          rcases Nat.lt_succ_iff_lt_or_eq.1 hj with h1 | rfl
          · exact HA.out j h h' h1
          · exact Prod.ext e.1 e.2
        generalize xs[k].1 = xa at *
        generalize xs[k].2 = xb at *
        generalize ys[k].1 = ya at *
        generalize ys[k].2 = yb at *
        have b0 : (0 : Int) ≤ (k : Int) := by omega
        have b1' : (k : Int) < (xs.length : Int) := by omega
        have b2' : (k : Int) < (ys.length : Int) := by omega
        clear hc1 hc2
        by_cases he : xa = ya
        · by_cases hf : xb = yb
          · have HE1 := Lib.hid (And.intro he hf)
            go_wp2_with (fail)
            go_quiet (fail)
            go_wp2
            go_roundw
            case rel => exact ⟨k + 1, by omega, by go_num, (by first | exact hB | exact below_drewN hB _), Lib.hid (HST.out HE1.out)⟩
            case measure => first | (simp [intOf]; done) | (simp [intOf]; omega)
          · have HE1 : Hid (¬ (xa = ya ∧ xb = yb)) := Lib.hid fun h => hf h.2
            go_wp2_with (fail)
            go_quiet (fail)
            go_wp2
            go_ret
            exact ⟨ret_b (HDk.out HE1.out).symm, by first | exact hB | exact below_drewN hB _⟩
        · have HE1 : Hid (¬ (xa = ya ∧ xb = yb)) := Lib.hid fun h => he h.1
          go_wp2_with (fail)
          go_quiet (fail)
          go_wp2
          go_ret
          exact ⟨ret_b (HDk.out HE1.out).symm, by first | exact hB | exact below_drewN hB _⟩
      · have HE1 := Lib.hid (HE.out HLL.out (fun j h h' => HA.out j h h' (by omega)))
        go_wp2
        go_ret
        exact ⟨ret_b HE1.out.symm, by first | exact hB | exact below_drewN hB _⟩
  · have hlb : (((xs.length : Int)) != (ys.length : Int)) = true := by simp; omega
    have hlb2 : (xs.length != ys.length) = true := by simpa using hl
    have HL1 := Lib.hid (HL.out hl)
    clear hl
    go_enter Try.func19, Try.ntmps19
    go_wp2
    go_ret
    exact ⟨ret_b HL1.out.symm, Below.refl _ _⟩
set_option maxRecDepth 100000 in
set_option maxHeartbeats 2000000 in
theorem of24 (x : Wat) (A B : Option Addr) (c d : Nat) (f t : Int) (w : World) (hlen : x.hb.length ≤ 9223372036854775807) :
    Calls Try.prog 24 #[x.val A c B d, .agg #[I f, I t]] w fun e w' => e = .returned (.bool (inB f 0 ((x.n : Int) - 1) && inB t 0 ((x.n : Int) - 1) && !(f == t))) ∧ Below w.heap.size w w' := by
  have H44 := Lib.hid in44
  show Calls Try.prog 24 #[x.val A c B d, .agg #[I f, I t]] w fun e w' => e = .returned (.bool (inB f 0 ((x.hb.length : Int) - 1) && inB t 0 ((x.hb.length : Int) - 1) && !(f == t))) ∧ Below w.heap.size w w'
  have hwn : IntKind.i64.wrap ((x.hb.length : Int) - 1) = (x.hb.length : Int) - 1 := IntWalk.i64_in _ (by omega)
  obtain ⟨b1, hb1⟩ : ∃ b, inB f 0 ((x.hb.length : Int) - 1) = b := ⟨_, rfl⟩
  obtain ⟨b2, hb2⟩ : ∃ b, inB t 0 ((x.hb.length : Int) - 1) = b := ⟨_, rfl⟩
  obtain ⟨b3, hb3⟩ : ∃ b, (f == t) = b := ⟨_, rfl⟩
  rw [hb1, hb2, hb3]
  have hb4 : (f != t) = !b3 := by rw [← hb3]; rfl
  unfold Wat.val
  cases b1 <;> cases b2 <;> cases b3
  all_goals
    go_enter Try.func24, Try.ntmps24
    go_wp2_with (first
      | (go_at_call 44; refine (H44.out _ _ _ _).mono ?_; rintro e w2 ⟨rfl, rfl⟩)
      | fail)
    go_ret
    exact ⟨rfl, by (repeat' (first | assumption | exact Below.refl _ _ | refine Below.drew ?_ | refine below_drewN ?_ _ | refine Below.setCell ?_ (by first | omega | (simp; done) | (simp; omega)) _ | refine Below.alloc ?_ (by first | omega | (simp; done) | (simp; omega)) _ | refine Below.trans ?_ (Below.mono (by assumption) (by first | omega | (simp; done) | (simp; omega)))))⟩
end Go.Proofs.Ytijgfdncocjncaa
