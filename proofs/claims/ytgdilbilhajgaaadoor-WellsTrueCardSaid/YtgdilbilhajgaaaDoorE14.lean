/- Flows. -/
import Derived.Test.YtgdilbilhajgaaaDoorE13
namespace Go.Proofs.YtgdilbilhajgaaaDoor
set_option linter.unusedVariables false
set_option linter.unusedSimpArgs false
open Go Go.RowKit

theorem info39 : (Tryd.prog.info? 39).map (fun i => (i.zero, i.size, i.bytes)) = some (some (.agg #[I 0, I 0]), 2, 16) := by kernel_rfl
theorem always_fn (w : World) : IsFn 45 #[] true w := fun T W _ => (always45 _ W).mono fun e w' ⟨h1, h2⟩ => ⟨h1, by subst h2; exact Below.refl _ _⟩
/-- What Flows answers. -/
def FlowsPost (m : List (Int × Int)) (l : List (Int × Int × Int)) (w : World) (e : Ending) (w' : World) : Prop :=
  Below w.heap.size w w' ∧ ((¬ InOk m l ∧ e = .returned (.tuple #[nilS, I 1])) ∨ (InOk m l ∧ (¬ ∃ x, Feas m l x) ∧ e = .returned (.tuple #[nilS, I 6])) ∨
    (InOk m l ∧ ∃ v sl, e = .returned (.tuple #[v, I 0]) ∧ w'.ownsRow w.heap.size 39 2 v m.length (flat2 sl) ∧ sl.length = m.length ∧ IsSpans m l (sF sl)))

theorem own_base {w : World} {base base' n size : Nat} {e : TypeId} {v : Value} {xs : List Value} (h : w.ownsRow base e size v n xs) (hb : base' ≤ base) : w.ownsRow base' e size v n xs := by
  refine ⟨h.1, h.2.imp id ?_⟩
  rintro ⟨g, cap, cur, h1, h2, h3⟩
  exact ⟨g, cap, cur, h1, by omega, h3⟩
set_option maxRecDepth 100000 in
set_option maxHeartbeats 4000000 in
theorem flows18 (A B : Option Addr) (c cb : Nat) (m : List (Int × Int)) (l : List (Int × Int × Int)) (w : World) (hm : Pairs w w.heap.size A m) (hml : m.length ≤ 9223372036854775807) (hl : Threes w w.heap.size B l) (hll : l.length ≤ 9223372036854775807) :
    Calls Tryd.prog 18 #[.slice A m.length c, .slice B l.length cb] w (FlowsPost m l w) := by
  have HRD := Lib.hid (read32 45 #[] (enters_of Tryd.func45 (by kernel_rfl) rfl) true A B c cb m l w hm hml hl hll (always_fn w))
  obtain ⟨i0, hi0, hi1, hi2, hi3⟩ := info_parts info39
  have hu : Tryd.prog.underlying 34 = some (.slice 39) := Tryd.underlying34
  have HU := Lib.hid hu; have HI0 := Lib.hid hi0; have HI1 := Lib.hid hi1; have HI2 := Lib.hid hi2; have HI3 := Lib.hid hi3
  clear hu hi0 hi1 hi2 hi3 hm hl
  go_enter Tryd.func18, Tryd.ntmps18
  go_wp2_with (first
    | (go_at_call 32; refine HRD.out.mono ?_; rintro e w1 ⟨hB1, ⟨hno, rfl⟩ | ⟨hok, ht, rfl⟩ | ⟨hok, _, hno, rfl⟩ | ⟨hok, _, T, S, sl, rfl, hTz, hSz, hT, hS, hlen, hsp⟩⟩ <;> (try cases ht) <;> (try have HNO := Lib.hid hno) <;> (try have HOK := Lib.hid hok) <;> (try have HT := Lib.hid hT) <;> (try have HS := Lib.hid hS) <;> (try have HSP := Lib.hid hsp) <;> (try clear hno) <;> (try clear hok) <;> (try clear hT hS hsp))
    | fail)
  · refine wp_loop_rounds 1 ?_
    rw [rounds_succ]
    go_wp2
    go_ret2
    exact ⟨hB1, .inl ⟨HNO.out, rfl⟩⟩
  · refine wp_loop_rounds 1 ?_
    rw [rounds_succ]
    go_wp2
    go_ret2
    exact ⟨hB1, .inr (.inl ⟨HOK.out, HNO.out, rfl⟩)⟩
  · have hn16 := HT.out.ok.le
    go_loopw [9, 21] (fun s9 s21 wr => ∃ k : Nat, k ≤ m.length ∧ s21 = I k ∧ Below w1.heap.size w1 wr ∧ Hid (wr.ownsRow w1.heap.size 39 2 s9 k (flat2 (sl.take k)))) (fun _ s _ => m.length - (intOf s).toNat)
    case atStart => exact ⟨0, Nat.zero_le _, rfl, Below.refl _ _, Lib.hid ⟨by simp [flat2], .inl ⟨rfl, rfl⟩⟩⟩
    case round =>
      obtain ⟨k, hk, rfl, hB, HO⟩ := hrel
      have hz := hB.size
      have hz1 := hB1.size
      by_cases hlt : k < m.length
      · have hkl : k < sl.length := by omega
        have hSr := HS.out.call hB
        obtain ⟨x0, x1, _, _⟩ := hSr.2 k hkl
        have hsz := hSr.1
        have HN : Hid (sl.take (k + 1) = sl.take k ++ [sl[k]]) := Lib.hid (List.take_succ_eq_append_getElem hkl)
        generalize sl[k] = x at *
        obtain ⟨xa, xb⟩ := x
        simp only at x0 x1
        clear hSr
        have hB2 : Below w1.heap.size w1 ((wr.alloc (.cells #[Value.int .i64 xa, Value.int .i64 xb] 68)).alloc (.cells #[Value.int .i64 xa, Value.int .i64 xb] 39)) := (hB.alloc hz _).alloc (by simp; omega) _
        have HO2 := Lib.hid ((HO.out.alloc (.cells #[Value.int .i64 xa, Value.int .i64 xb] 68)).alloc (.cells #[Value.int .i64 xa, Value.int .i64 xb] 39))
        have HC2 := Lib.hid (cells2 (wr.alloc (.cells #[Value.int .i64 xa, Value.int .i64 xb] 68)) (I xa) (I xb) 39)
        go_wp2_with (first
          | (at_builtin; refine wpList_append_own _ rfl _ _ 34 rfl w1.heap.size 39 i0 (.agg #[I 0, I 0]) 2 16 HU.out HI0.out HI1.out HI2.out HI3.out rfl (by decide) _ _ _ rfl HO2.out ⟨wr.heap.size + 1, 0, none⟩ 1 1 [I xa, I xb] rfl rfl (by have := HC2.out; rwa [World.size_alloc] at this) (by simp [Value.oneCell']) (by unfold maxLen; omega) (by omega) (by simp; omega) ?_; intro v' w2 hown' hgrow _; have HO1 := Lib.hid hown'; clear hown')
          | fail)
        have hB3 : Below w1.heap.size w1 w2 := hB2.grown hgrow hB2.size (fun g e => (HO.out.lt g e).1)
        have hO3 : Hid (w2.ownsRow w1.heap.size 39 2 v' (k + 1) (flat2 (sl.take (k + 1)))) := Lib.hid (by rw [HN.out, flat2_snoc]; exact HO1.out)
        clear hgrow HO1
        go_wp2
        go_roundw
        case rel => exact ⟨k + 1, by omega, by go_num, hB3, hO3⟩
        case measure => simp [intOf]; omega
      · obtain rfl : m.length = k := by omega
        have hown := HO.out
        rw [List.take_of_length_le (by omega)] at hown
        have HOW := Lib.hid hown
        clear hown
        go_wp2
        go_ret2
        exact ⟨hB1.trans (hB.mono hB1.size), .inr (.inr ⟨HOK.out, _, sl, rfl, own_base HOW.out hB1.size, hlen, HSP.out⟩)⟩
end Go.Proofs.YtgdilbilhajgaaaDoor
