/- Law 7, the easy walks. -/
import Derived.Test.YtijgfdncocjncaaG8
import Derived.Test.YtijgfdncocjncaaL5
import Derived.Deep.CutRange
import Derived.Deep.DeepCutAuto
namespace Go.Proofs.Ytijgfdncocjncaa
set_option linter.unusedVariables false
set_option linter.unusedSimpArgs false
open Go Go.RowKit

theorem info54 : (Try.prog.info? 54).map (fun i => (i.zero, i.size, i.bytes)) = some (some (.agg #[I 0, I 0, I 0, I 0]), 4, 32) := by kernel_rfl
theorem wide_all {x : Wat} {k : Nat} {lo hi : Int} (hwb : watB x = true) (hk : k < x.n) (h0 : lo ≤ hi → 0 ≤ lo ∧ hi ≤ 1048576) (h1 : x.ol k ≤ x.oh k → lo ≤ x.ol k ∧ x.oh k ≤ hi) :
    ∃ fs2 z4 ls2, fewR (wideW x k lo hi) = (fs2, z4) ∧ lckR (wideW x k lo hi) = (ls2, 0) ∧ ((fewR x).2 = 0 → z4 = 0 ∧ fs2.length ≤ (fewR x).1.length) ∧ ls2.length ≤ (lckR x).1.length ∧ ∀ p, p ∈ ls2 → p ∈ (lckR x).1 := by
  have hx := watB_iff.1 hwb
  have hw2 := watB_iff.2 (wideW_ok hx hk h0)
  have hl := wideW_lckTo (lo := lo) (hi := hi) hk h1
  refine ⟨(fewR (wideW x k lo hi)).1, (fewR (wideW x k lo hi)).2, _, rfl, lckR_of hw2, ?_, ?_, ?_⟩
  · cases ho : fewTo x x.n with
    | none => rw [fewR_none hwb ho]; intro h; cases h
    | some o =>
      obtain ⟨o2, h2, h3⟩ := wideW_few (lo := lo) (hi := hi) hk h1 ho
      rw [fewR_of hwb ho, fewR_of hw2 h2]
      exact fun _ => ⟨rfl, h3⟩
  · rw [lckR_of hwb]
    show ((lckTo (wideW x k lo hi) x.m).map _).length ≤ ((lckTo x x.m).map _).length
    rw [List.length_map, List.length_map]
    exact hl.1
  · rw [lckR_of hwb]
    intro p hp
    obtain ⟨i, hi2, rfl⟩ := List.mem_map.1 hp
    exact List.mem_map.2 ⟨i, hl.2 i hi2, rfl⟩
theorem wide_in64 {x : Wat} {k : Nat} {lo hi : Int} (h : Wat64 x) (h1 : In64 lo) (h2 : In64 hi) (hk : k < x.hb.length) : Wat64 (wideW x k lo hi) := by
  refine ⟨h.en, fun j hj => ?_, h.er, by show (x.hb.set _ _).length ≤ _; rw [List.length_set]; exact h.hlen, h.elen⟩
  have hj' : j < x.hb.length := by
    have : j < (x.hb.set k (lo, hi, x.dl k, x.dh k)).length := hj
    rwa [List.length_set] at this
  have e : (wideW x k lo hi).hb[j] = if k = j then (lo, hi, x.dl k, x.dh k) else x.hb[j] := List.getElem_set (by rw [List.length_set]; exact hj')
  rw [e]
  split
  · have h3 := h.hb k hk
    rw [hb_get x hk] at h3
    exact ⟨h1, h2, h3.2.2.1, h3.2.2.2⟩
  · exact h.hb j hj'
theorem flat4_set01 : ∀ (l : List (Int × Int × Int × Int)) (k : Nat) (lo hi : Int) (h : k < l.length), flat4 (l.set k (lo, hi, l[k].2.2.1, l[k].2.2.2)) = ((flat4 l).set (k * 4) (I lo)).set (k * 4 + 1) (I hi)
  | s :: l, 0, lo, hi, _ => by simp [flat4]
  | s :: l, k + 1, lo, hi, h => by
    have ih := flat4_set01 l k lo hi (by simpa using h)
    have e2 : ∀ (s : Int × Int × Int × Int) (l : List (Int × Int × Int × Int)), flat4 (s :: l) = I s.1 :: I s.2.1 :: I s.2.2.1 :: I s.2.2.2 :: flat4 l := fun s l => by simp [flat4]
    simp only [List.set_cons_succ, List.getElem_cons_succ]
    rw [e2, e2, ih, show (k + 1) * 4 = k * 4 + 1 + 1 + 1 + 1 by omega, show k * 4 + 1 + 1 + 1 + 1 + 1 = (k * 4 + 1) + 1 + 1 + 1 + 1 by omega]
    simp only [List.set_cons_succ]
def inI (l : List Int) (v : Int) (k : Nat) : Bool := (l.take k).any (· == v)
theorem inI_succ {l : List Int} {v : Int} {k : Nat} (h : k < l.length) : inI l v (k + 1) = (inI l v k || (l[k] == v)) := by
  unfold inI
  rw [List.take_succ_eq_append_getElem h, List.any_append]
  simp
theorem inI_mem {l : List Int} {v : Int} (h : v ∈ l) : inI l v l.length = true := by
  unfold inI
  rw [List.take_length]
  exact List.any_eq_true.2 ⟨v, h, by simp⟩
theorem grown_setC (W : World) (p : Addr) (v : Value) : W.grownBy (W.setCell p v) (some p.block) :=
  ⟨rfl, rfl, rfl, by simp [World.setCell], fun k hk hne => Below.heap_setCell _ _ _ _ (fun e => hne (by rw [e]))⟩
theorem fewR_m36 (x : Wat) : (fewR x).1.length ≤ 36 := by
  unfold fewR
  cases hw : watB x
  · simp
  · have hn := (watB_iff.1 hw).n6
    cases hf : fewTo x x.n with
    | none => simp
    | some o =>
      have h := (fewTo_ok x x.n o hn hn hf).1
      show o.length ≤ 36
      omega
theorem below_two {w W : World} (h : Below w.drew.drew.heap.size w.drew.drew W) : Below w.heap.size w W := ⟨h.os, h.tape, h.output, h.size, h.block⟩
set_option maxRecDepth 100000 in
set_option maxHeartbeats 8000000 in
theorem any7_large (x : Wat) (A B : Option Addr) (c d : Nat) (f t : Int) (wh by_ : Nat) (w : World) (h64 : Wat64 x) (hW : WatAt w x A B) (hwh : wh < 256) (hby : by_ < 256) (hlg : lrgB x 40 = true) :
    Calls Try.prog 7 #[x.val A c B d, .agg #[I f, I t], .int .u8 wh, .int .u8 by_] w fun e w' => e = .returned (.bool true) ∧ Below w.heap.size w w' := by
  have HWA : Hid (∀ W, Below w.heap.size w W → WatAt W x A B) := Lib.hid fun W h => hW.below h
  have H8 : Hid (∀ W, Calls Try.prog 8 #[x.val A c B d, I 40] W fun e w' => e = .returned (.bool true) ∧ Below W.heap.size W w') := Lib.hid fun W => by have h := large8b x A B c d 40 W h64; rw [hlg] at h; exact h
  have H9 := Lib.hid awake9
  have hv : x.val A c B d = .agg #[.slice A x.hb.length c, .slice B x.er.length d, I x.en] := rfl
  rw [hv] at H8 ⊢
  clear hv
  have HX0 : Hid (Box ((w.alloc (.cells #[.slice A x.hb.length c, .slice B x.er.length d, I x.en] 25)).alloc (.cells #[I f, I t] 27)) w.heap.size [.slice A x.hb.length c, .slice B x.er.length d, I x.en]) := Lib.hid ((Box.new w [.slice A x.hb.length c, .slice B x.er.length d, I x.en] 25).alloc _)
  have HL0 : Hid (Box ((w.alloc (.cells #[.slice A x.hb.length c, .slice B x.er.length d, I x.en] 25)).alloc (.cells #[I f, I t] 27)) (w.heap.size + 1) [I f, I t]) := Lib.hid (by have := Box.new (w.alloc (.cells #[.slice A x.hb.length c, .slice B x.er.length d, I x.en] 25)) [I f, I t] 27; rw [World.size_alloc] at this; exact this)
  have HB0 : Hid (Below w.heap.size w ((w.alloc (.cells #[.slice A x.hb.length c, .slice B x.er.length d, I x.en] 25)).alloc (.cells #[I f, I t] 27))) := Lib.hid (by (repeat' (first | assumption | exact Below.refl _ _ | refine Below.drew ?_ | refine below_drewN ?_ _ | refine Below.setCell ?_ (by first | omega | (simp; done) | (simp; omega)) _ | refine Below.alloc ?_ (by first | omega | (simp; done) | (simp; omega)) _ | refine Below.trans ?_ (Below.mono (by assumption) (by first | omega | (simp; done) | (simp; omega))))))
  have HZ0 : Hid (((w.alloc (.cells #[.slice A x.hb.length c, .slice B x.er.length d, I x.en] 25)).alloc (.cells #[I f, I t] 27)).heap.size = w.heap.size + 2) := Lib.hid (by simp)
  go_enter Try.func7, Try.ntmps7
  go_upto_region 1 with (fail)
  generalize ((w.alloc (.cells #[.slice A x.hb.length c, .slice B x.er.length d, I x.en] 25)).alloc (.cells #[I f, I t] 27)) = w0 at *
  have hz0 := HZ0.out
  have HCP : Hid (∀ W, Below (w.heap.size + 2) w0 W → W.cell? ⟨w.heap.size, 0, none⟩ = some (.slice A x.hb.length c) ∧ W.cell? ⟨w.heap.size, 1, none⟩ = some (.slice B x.er.length d) ∧ W.cell? ⟨w.heap.size, 2, none⟩ = some (I x.en) ∧ W.cell? ⟨w.heap.size + 1, 0, none⟩ = some (I f) ∧ W.cell? ⟨w.heap.size + 1, 1, none⟩ = some (I t) ∧ w.heap.size + 2 ≤ W.heap.size ∧ WatAt W x A B ∧ Below w.heap.size w W) := Lib.hid fun W hB => by
    have h1 := HX0.out.below hB (by omega)
    have h2 := HL0.out.below hB (by omega)
    have h3 := HB0.out.trans (hB.mono (by omega))
    exact ⟨(h1.at_ 0 _ rfl).1, (h1.at_ 1 _ rfl).1, (h1.at_ 2 _ rfl).1, (h2.at_ 0 _ rfl).1, (h2.at_ 1 _ rfl).1, by have := hB.size; omega, HWA.out W h3, h3⟩
  have HN : Hid (Below (w.heap.size + 2) w0 w0) := Lib.hid (Below.refl _ _)
  obtain ⟨m0, m1, m2, l0, l1, hzN, hWN, hBN⟩ := HCP.out _ HN.out
  clear HX0 HL0 HB0 HZ0
  go_wp2_with (first
    | (go_at_call 8; refine (H8.out _).mono ?_; rintro e w1 ⟨rfl, hB⟩; clear H8; replace HN := Lib.hid (HN.out.trans (hB.mono hzN)); clear m0 m1 m2 l0 l1 hzN hWN hBN; obtain ⟨m0, m1, m2, l0, l1, hzN, hWN, hBN⟩ := HCP.out _ HN.out; clear hB)
    | (go_at_call 9; refine (H9.out _).mono ?_; rintro e w1 ⟨rfl, hB⟩; clear H9; replace HN := Lib.hid (HN.out.trans (hB.mono hzN)); clear m0 m1 m2 l0 l1 hzN hWN hBN; obtain ⟨m0, m1, m2, l0, l1, hzN, hWN, hBN⟩ := HCP.out _ HN.out; clear hB)
    | fail)
  exact bodyPost_ret (v := .bool true) (by simp [results, Try.results7, go_sem]) rfl ⟨rfl, hBN⟩
set_option maxRecDepth 100000 in
set_option maxHeartbeats 8000000 in
theorem any7_err (x : Wat) (A B : Option Addr) (c d : Nat) (f t : Int) (wh by_ : Nat) (w : World) (h64 : Wat64 x) (hW : WatAt w x A B) (hwh : wh < 256) (hby : by_ < 256) (hlg : lrgB x 40 = false) {z2 : Int} (hh : hldR x f t = (false, 0, z2)) (hz2 : z2 ≠ 0) :
    Calls Try.prog 7 #[x.val A c B d, .agg #[I f, I t], .int .u8 wh, .int .u8 by_] w fun e w' => e = .returned (.bool true) ∧ Below w.heap.size w w' := by
  have HWA : Hid (∀ W, Below w.heap.size w W → WatAt W x A B) := Lib.hid fun W h => hW.below h
  have H8 : Hid (∀ W, Calls Try.prog 8 #[x.val A c B d, I 40] W fun e w' => e = .returned (.bool false) ∧ Below W.heap.size W w') := Lib.hid fun W => by have h := large8b x A B c d 40 W h64; rw [hlg] at h; exact h
  have H10 : Hid (∀ W, WatAt W x A B → Calls Try.prog 10 #[x.val A c B d, .agg #[I f, I t]] W fun e w' => e = .returned (.tuple #[.bool false, I 0, I z2]) ∧ Below W.heap.size W w') := Lib.hid fun W h => by have := holds10 x A B c d f t W h64 h; rw [hh] at this; exact this
  have hzb : (z2 != 0) = true := by simpa using hz2
  clear hh
  have H9 := Lib.hid awake9
  have hv : x.val A c B d = .agg #[.slice A x.hb.length c, .slice B x.er.length d, I x.en] := rfl
  rw [hv] at H8 H10 ⊢
  clear hv
  have HX0 : Hid (Box ((w.alloc (.cells #[.slice A x.hb.length c, .slice B x.er.length d, I x.en] 25)).alloc (.cells #[I f, I t] 27)) w.heap.size [.slice A x.hb.length c, .slice B x.er.length d, I x.en]) := Lib.hid ((Box.new w [.slice A x.hb.length c, .slice B x.er.length d, I x.en] 25).alloc _)
  have HL0 : Hid (Box ((w.alloc (.cells #[.slice A x.hb.length c, .slice B x.er.length d, I x.en] 25)).alloc (.cells #[I f, I t] 27)) (w.heap.size + 1) [I f, I t]) := Lib.hid (by have := Box.new (w.alloc (.cells #[.slice A x.hb.length c, .slice B x.er.length d, I x.en] 25)) [I f, I t] 27; rw [World.size_alloc] at this; exact this)
  have HB0 : Hid (Below w.heap.size w ((w.alloc (.cells #[.slice A x.hb.length c, .slice B x.er.length d, I x.en] 25)).alloc (.cells #[I f, I t] 27))) := Lib.hid (by (repeat' (first | assumption | exact Below.refl _ _ | refine Below.drew ?_ | refine below_drewN ?_ _ | refine Below.setCell ?_ (by first | omega | (simp; done) | (simp; omega)) _ | refine Below.alloc ?_ (by first | omega | (simp; done) | (simp; omega)) _ | refine Below.trans ?_ (Below.mono (by assumption) (by first | omega | (simp; done) | (simp; omega))))))
  have HZ0 : Hid (((w.alloc (.cells #[.slice A x.hb.length c, .slice B x.er.length d, I x.en] 25)).alloc (.cells #[I f, I t] 27)).heap.size = w.heap.size + 2) := Lib.hid (by simp)
  go_enter Try.func7, Try.ntmps7
  go_upto_region 1 with (fail)
  generalize ((w.alloc (.cells #[.slice A x.hb.length c, .slice B x.er.length d, I x.en] 25)).alloc (.cells #[I f, I t] 27)) = w0 at *
  have hz0 := HZ0.out
  have HCP : Hid (∀ W, Below (w.heap.size + 2) w0 W → W.cell? ⟨w.heap.size, 0, none⟩ = some (.slice A x.hb.length c) ∧ W.cell? ⟨w.heap.size, 1, none⟩ = some (.slice B x.er.length d) ∧ W.cell? ⟨w.heap.size, 2, none⟩ = some (I x.en) ∧ W.cell? ⟨w.heap.size + 1, 0, none⟩ = some (I f) ∧ W.cell? ⟨w.heap.size + 1, 1, none⟩ = some (I t) ∧ w.heap.size + 2 ≤ W.heap.size ∧ WatAt W x A B ∧ Below w.heap.size w W) := Lib.hid fun W hB => by
    have h1 := HX0.out.below hB (by omega)
    have h2 := HL0.out.below hB (by omega)
    have h3 := HB0.out.trans (hB.mono (by omega))
    exact ⟨(h1.at_ 0 _ rfl).1, (h1.at_ 1 _ rfl).1, (h1.at_ 2 _ rfl).1, (h2.at_ 0 _ rfl).1, (h2.at_ 1 _ rfl).1, by have := hB.size; omega, HWA.out W h3, h3⟩
  have HN : Hid (Below (w.heap.size + 2) w0 w0) := Lib.hid (Below.refl _ _)
  obtain ⟨m0, m1, m2, l0, l1, hzN, hWN, hBN⟩ := HCP.out _ HN.out
  clear HX0 HL0 HB0
  go_wp2_with (first
    | (go_at_call 8; refine (H8.out _).mono ?_; rintro e w1 ⟨rfl, hB⟩; clear H8; replace HN := Lib.hid (HN.out.trans (hB.mono hzN)); clear m0 m1 m2 l0 l1 hzN hWN hBN; obtain ⟨m0, m1, m2, l0, l1, hzN, hWN, hBN⟩ := HCP.out _ HN.out; clear hB)
    | (go_at_call 10; refine (H10.out _ hWN).mono ?_; rintro e w1 ⟨rfl, hB⟩; clear H10; replace HN := Lib.hid (HN.out.trans (hB.mono hzN)); clear m0 m1 m2 l0 l1 hzN hWN hBN; obtain ⟨m0, m1, m2, l0, l1, hzN, hWN, hBN⟩ := HCP.out _ HN.out; clear hB)
    | (go_at_call 9; refine (H9.out _).mono ?_; rintro e w1 ⟨rfl, hB⟩; clear H9; replace HN := Lib.hid (HN.out.trans (hB.mono hzN)); clear m0 m1 m2 l0 l1 hzN hWN hBN; obtain ⟨m0, m1, m2, l0, l1, hzN, hWN, hBN⟩ := HCP.out _ HN.out; clear hB)
    | fail)
  exact bodyPost_ret (v := .bool true) (by simp [results, Try.results7, go_sem]) rfl ⟨rfl, hBN⟩
end Go.Proofs.Ytijgfdncocjncaa
