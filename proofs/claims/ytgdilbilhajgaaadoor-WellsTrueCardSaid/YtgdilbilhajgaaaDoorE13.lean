/- read, Flows. -/
import Derived.Test.YtgdilbilhajgaaaDoorE12
namespace Go.Proofs.YtgdilbilhajgaaaDoor
set_option linter.unusedVariables false
set_option linter.unusedSimpArgs false
open Go Go.RowKit

abbrev nilS : Value := .slice none 0 0
theorem always45 (p : Value) (w : World) : Calls Tryd.prog 45 #[p] w fun e w' => e = .returned (.bool true) ∧ w = w' := by
  go_enter Tryd.func45, Tryd.ntmps45
  go_wp2
  go_ret
  exact ⟨rfl, rfl⟩
/-- What is wrong with mains and readings, or that all is right. -/
def InOk (m : List (Int × Int)) (l : List (Int × Int × Int)) : Prop := MOk m ∧ RdsOk m.length l
def RdPost (m : List (Int × Int)) (l : List (Int × Int × Int)) (A : Option Addr) (c : Nat) (b : Bool) (w : World) (e : Ending) (w' : World) : Prop :=
  Below w.heap.size w w' ∧ ((¬ InOk m l ∧ e = .returned (.tuple #[.pointer none, nilS, I 1])) ∨ (InOk m l ∧ b = false ∧ e = .returned (.tuple #[.pointer none, nilS, I 2])) ∨
    (InOk m l ∧ b = true ∧ (¬ ∃ x, Feas m l x) ∧ e = .returned (.tuple #[.pointer none, nilS, I 6])) ∨
    (InOk m l ∧ b = true ∧ ∃ T S sl, e = .returned (.tuple #[.pointer (some ⟨T, 0, none⟩), .slice (some ⟨S, 0, none⟩) m.length m.length, I 0]) ∧ w.heap.size ≤ T ∧ w.heap.size ≤ S ∧ TreeAt w' T A c m ∧ SpB w' S sl ∧ sl.length = m.length ∧ IsSpans m l (sF sl)))
/-- A test of a tree that answers b. -/
def IsFn (g : Nat) (lb : Array Value) (b : Bool) (w : World) : Prop := ∀ T W, Below w.heap.size w W → Calls Tryd.prog g (#[.pointer (some ⟨T, 0, none⟩)] ++ lb) W fun e w' => e = .returned (.bool b) ∧ Below W.heap.size W w'

set_option maxRecDepth 100000 in
set_option maxHeartbeats 4000000 in
theorem read32 (g : Nat) (lb : Array Value) (eg : ∀ args w, (callFunc g args).run Tryd.prog w = .ok (.enter g args) w) (b : Bool) (A B : Option Addr) (c cb : Nat) (m : List (Int × Int)) (l : List (Int × Int × Int)) (w : World) (hm : Pairs w w.heap.size A m) (hml : m.length ≤ 9223372036854775807)
    (hl : Threes w w.heap.size B l) (hll : l.length ≤ 9223372036854775807) (his : IsFn g lb b w) :
    Calls Tryd.prog 32 #[.slice A m.length c, .slice B l.length cb, .func (.func g) #[] lb] w (RdPost m l A c b w) := by
  have HIS := Lib.hid his
  have HNT := Lib.hid (newTree53 A c m w hm hml)
  have HAR : Hid (∀ T W, TreeAt W T A c m → Below w.heap.size w W → Calls Tryd.prog 54 #[.pointer (some ⟨T, 0, none⟩), .slice B l.length cb] W fun e w' => ∃ b, e = .returned (.bool b) ∧ (b = true ↔ RdsOk m.length l) ∧ Below W.heap.size W w') := Lib.hid fun T W hT hB =>
    areReadings54 T c m.length A B cb l W hT.hT hT.c0 (by have := hT.ok.le; omega) ((hl.below hB).more hB.size) hll
  have HFL : Hid (RdsOk m.length l → ∀ T W, TreeAt W T A c m → Below w.heap.size w W → Calls Tryd.prog 40 #[.pointer (some ⟨T, 0, none⟩), .slice B l.length cb] W (FlPost m l W)) := Lib.hid fun hr T W hT hB =>
    flows40 T A B c cb m l W hT ((hl.below hB).more hB.size) hll hr.2
  clear his hm hl
  go_enter Tryd.func32, Tryd.ntmps32
  go_wp2_with (first
    | (go_at_call 53; refine HNT.out.mono ?_; rintro e w1 ⟨hB1, ⟨hok, T, rfl, hTz, hT⟩ | ⟨hno, rfl⟩⟩ <;> (first | (have HT := Lib.hid hT; have HOK := Lib.hid hok; clear hT hok) | (have HNO := Lib.hid hno; clear hno)))
    | (go_at_call 54; refine (HAR.out _ _ HT.out hB1).mono ?_; rintro e w2 ⟨b2, rfl, hb2, hB2⟩; have HB2 := Lib.hid hb2; clear hb2; cases b2 <;> (have HT2 := Lib.hid (HT.out.call hB2); have hB12 := hB1.trans (hB2.mono hB1.size)))
    | (go_at_fn g; refine (HIS.out _ _ hB12).mono ?_; rintro e w3 ⟨rfl, hB3⟩; have HT3 := Lib.hid (HT2.out.call hB3); have hB13 := hB12.trans (hB3.mono hB12.size); cases b)
    | (go_at_call 40; refine (HFL.out (HB2.out.1 (by trivial)) _ _ HT3.out hB13).mono ?_; rintro e w4 ⟨S, sl, r, rfl, hS1, hS2, hS3, hB4, ⟨rfl, hsp⟩ | ⟨rfl, hno⟩⟩ <;> (have HS2 := Lib.hid hS2; have HT4 := Lib.hid (HT3.out.call hB4); have hB14 := hB13.trans (hB4.mono hB13.size); first | (have HSP := Lib.hid hsp; clear hsp) | (have HNF := Lib.hid hno; clear hno)))
    | fail)
  all_goals go_ret3
  · exact ⟨hB12, .inl ⟨fun h => Bool.false_ne_true (HB2.out.2 h.2), rfl⟩⟩
  · exact ⟨hB13, .inr (.inl ⟨⟨HOK.out, HB2.out.1 (by trivial)⟩, rfl, rfl⟩)⟩
  · exact ⟨hB14, .inr (.inr (.inr ⟨⟨HOK.out, HB2.out.1 (by trivial)⟩, rfl, T, S, sl, rfl, hTz, by have := hB13.size; omega, HT4.out, HS2.out, hS3, HSP.out⟩))⟩
  · exact ⟨hB14, .inr (.inr (.inl ⟨⟨HOK.out, HB2.out.1 (by trivial)⟩, rfl, HNF.out, rfl⟩))⟩
  · exact ⟨hB1, .inl ⟨fun h => HNO.out h.1, rfl⟩⟩
end Go.Proofs.YtgdilbilhajgaaaDoor
