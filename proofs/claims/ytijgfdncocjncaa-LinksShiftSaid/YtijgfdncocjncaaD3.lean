/- The document's Explains and refuted. -/
import Derived.Test.YtijgfdncocjncaaD2
namespace Go.Proofs.Ytijgfdncocjncaa
set_option linter.unusedVariables false
set_option linter.unusedSimpArgs false
open Go Go.RowKit

theorem any_range_no {p : Nat → Bool} {m : Nat} (h : ∀ k, k < m → p k = false) : ((List.range m).any p) = false := by
  cases h2 : (List.range m).any p with
  | false => rfl
  | true =>
    obtain ⟨k, hk, h3⟩ := List.any_eq_true.1 h2
    rw [h k (List.mem_range.1 hk)] at h3
    cases h3
theorem any_range_yes {p : Nat → Bool} {m k : Nat} (hk : k < m) (h : p k = true) : ((List.range m).any p) = true := List.any_eq_true.2 ⟨k, List.mem_range.2 hk, h⟩
theorem lt_snoc {p : Nat → Prop} {k : Nat} (h : ∀ j, j < k → p j) (hk : p k) : ∀ j, j < k + 1 → p j := fun j hj => by
  rcases Nat.lt_succ_iff_lt_or_eq.1 hj with h1 | rfl
  · exact h j h1
  · exact hk
set_option maxRecDepth 100000 in
set_option maxHeartbeats 4000000 in
theorem explains36 (x : Wat) (A B : Option Addr) (c d : Nat) (f t b : Nat) (w : World) (hx : WatOk x) (hW : WatAt w x A B) (hb : b < x.er.length) (ht : t < x.hb.length) :
    Calls Try.prog 36 #[x.val A c B d, .agg #[I f, I t], I b] w fun e w' => e = .returned (.bool (expB x f t b)) ∧ Below w.heap.size w w' := by
  have hm64 : x.er.length ≤ 64 := hx.m64
  have HWA : Hid (∀ W, Below w.heap.size w W → WatAt W x A B) := Lib.hid fun W h => hW.below h
  have H49 : Hid (∀ (W : World) (a : Nat), Below w.heap.size w W → a < x.er.length → Calls Try.prog 49 #[x.val A c B d, .agg #[I f, I t], I b, I a] W fun e w' => e = .returned (.bool (folB x f t b a)) ∧ Below W.heap.size W w') := Lib.hid fun W a h ha => follows49 x A B c d f t b a W hx (hW.below h) ha hb ht
  have HN : Hid ((∀ k, k < x.er.length → folB x f t b k = false) → expB x f t b = false) := Lib.hid fun h => any_range_no h
  have HY : Hid (∀ k, k < x.er.length → folB x f t b k = true → expB x f t b = true) := Lib.hid fun k h1 h2 => any_range_yes h1 h2
  have HB0 : Hid (Below w.heap.size w ((w.alloc (.cells #[.slice A x.hb.length c, .slice B x.er.length d, I x.en] 25)).alloc (.cells #[I f, I t] 27))) := Lib.hid (by (repeat' (first | assumption | exact Below.refl _ _ | refine Below.drew ?_ | refine below_drewN ?_ _ | refine Below.setCell ?_ (by first | omega | (simp; done) | (simp; omega)) _ | refine Below.alloc ?_ (by first | omega | (simp; done) | (simp; omega)) _ | refine Below.trans ?_ (Below.mono (by assumption) (by first | omega | (simp; done) | (simp; omega))))))
  have HX0 : Hid (Box ((w.alloc (.cells #[.slice A x.hb.length c, .slice B x.er.length d, I x.en] 25)).alloc (.cells #[I f, I t] 27)) w.heap.size [.slice A x.hb.length c, .slice B x.er.length d, I x.en]) := Lib.hid ((Box.new w [.slice A x.hb.length c, .slice B x.er.length d, I x.en] 25).alloc _)
  have HL0 : Hid (Box ((w.alloc (.cells #[.slice A x.hb.length c, .slice B x.er.length d, I x.en] 25)).alloc (.cells #[I f, I t] 27)) (w.heap.size + 1) [I f, I t]) := Lib.hid (by have := Box.new (w.alloc (.cells #[.slice A x.hb.length c, .slice B x.er.length d, I x.en] 25)) [I f, I t] 27; simpa only [World.size_alloc] using this)
  have HZ0 : Hid (((w.alloc (.cells #[.slice A x.hb.length c, .slice B x.er.length d, I x.en] 25)).alloc (.cells #[I f, I t] 27)).heap.size = w.heap.size + 2) := Lib.hid (by simp)
  generalize expB x f t b = eb at *
  clear hx hW
  unfold Wat.val at H49 ⊢
  go_enter Try.func36, Try.ntmps36
  go_wp2_with (fail)
  generalize (w.alloc (.cells #[.slice A x.hb.length c, .slice B x.er.length d, I x.en] 25)).alloc (.cells #[I f, I t] 27) = wa at *
  have hza := HZ0.out
  have HCE : Hid (∀ W, Below wa.heap.size wa W → Below w.heap.size w W ∧ Box W w.heap.size [.slice A x.hb.length c, .slice B x.er.length d, I x.en] ∧ Box W (w.heap.size + 1) [I f, I t]) := Lib.hid fun W hB => ⟨HB0.out.trans (hB.mono (by omega)), HX0.out.call hB, HL0.out.call hB⟩
  go_loopw [7] (fun s wr => ∃ k : Nat, k ≤ x.er.length ∧ s = I k ∧ Below wa.heap.size wa wr ∧ Hid (∀ j, j < k → folB x f t b j = false)) (fun s _ => x.er.length - (intOf s).toNat)
  case atStart => exact ⟨0, by omega, rfl, Below.refl _ _, Lib.hid fun j h => by omega⟩
  case round =>
    obtain ⟨k, hk, rfl, hB, HA⟩ := hrel
    have hzr := hB.size
    obtain ⟨hbw, hbx, hbl⟩ := HCE.out _ hB
    obtain ⟨c0, _⟩ := hbx.at_ 0 _ rfl
    obtain ⟨c1, _⟩ := hbx.at_ 1 _ rfl
    obtain ⟨c2, _⟩ := hbx.at_ 2 _ rfl
    obtain ⟨l0, _⟩ := hbl.at_ 0 _ rfl
    obtain ⟨l1, _⟩ := hbl.at_ 1 _ rfl
    have hBW := HB0.out
    by_cases hlt : k < x.er.length
    · have H49k := Lib.hid (H49.out wr k hbw hlt)
      have HYk := Lib.hid (HY.out k hlt)
      have p0 : (0 : Int) ≤ (k : Int) := by omega
      have p1 : (k : Int) < (x.er.length : Int) := by omega
      obtain ⟨fb, hfb⟩ : ∃ fb, folB x f t b k = fb := ⟨_, rfl⟩
      rw [hfb] at H49k HYk
      have HFB := Lib.hid hfb
      clear hfb
      cases fb
      · have HS := Lib.hid (lt_snoc HA.out HFB.out)
        go_wp2_with (first | (go_at_call 49; refine H49k.out.mono ?_; rintro e w3 ⟨rfl, hB3⟩) | fail)
        go_roundw
        case rel => first | exact ⟨k + 1, by omega, by go_num, hB.trans (hB3.mono hzr), HS⟩ | ((repeat apply Exists.intro); refine ⟨?_, rfl⟩; exact ⟨k + 1, by omega, by go_num, hB.trans (hB3.mono hzr), HS⟩)
        case measure => first | (simp [intOf]; done) | (simp [intOf]; omega)
      · have HR := Lib.hid (HYk.out rfl)
        go_wp2_with (first | (go_at_call 49; refine H49k.out.mono ?_; rintro e w3 ⟨rfl, hB3⟩) | fail)
        refine bodyPost_ret (v := .bool true) (by simp [results, Try.results36, go_sem]) rfl ⟨by rw [HR.out], hbw.trans (hB3.mono (by omega))⟩
    · have HR := Lib.hid (HN.out fun j h => HA.out j (by omega))
      go_wp2_with (fail)
      refine bodyPost_ret (v := .bool false) (by simp [results, Try.results36, go_sem]) rfl ⟨by rw [HR.out], hbw⟩
end Go.Proofs.Ytijgfdncocjncaa
