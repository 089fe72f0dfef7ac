/- flows. -/
import Derived.Test.YtgdilbilhajgaaaDoorW3
import Derived.Test.YtgdilbilhajgaaaDoorE11
namespace Go.Proofs.YtgdilbilhajgaaaDoor
set_option linter.unusedVariables false
set_option linter.unusedSimpArgs false
open Go Go.RowKit

theorem DnP.iff {m : List (Int × Int)} {l : List (Int × Int × Int)} {s d : Nat → Int × Int} {P Q : Nat → Prop} (h : DnP m l s P d) (hPQ : ∀ x, 0 < x → x < m.length → (P x ↔ Q x)) : DnP m l s Q d :=
  ⟨h.up, h.zero, fun x h0 h1 h2 => h.done x h0 h1 ((hPQ x h0 h1).2 h2), fun x h0 h1 h2 => h.rest x h0 h1 (fun h3 => h2 ((hPQ x h0 h1).1 h3)), h.sound, h.sub⟩
theorem up2_all {m : List (Int × Int)} {l : List (Int × Int × Int)} {s : Nat → Int × Int} (hm : MOk m) {sl : List (Int × Int)} (hsl : sl.length = m.length) {i : Nat} (hi : i < m.length) (h : DnP m l s (fun x => parW m x < (i : Int)) (sF sl)) : ∀ j, j ≤ (kids m i).length → DnP m l s (PJ m i j) (sF (upL m i sl j))
  | 0, _ => h.iff fun x _ _ => by simp [PJ]
  | j + 1, hj => by
    have h1 := up2_all hm hsl hi h j (by omega)
    have h2 := up2_step hm (by rw [upL_len]; exact hsl) hi (show j < (kids m i).length by omega) h1
    have e : (kids m i).getD j 0 = (kids m i)[j] := by simp [List.getD, show j < (kids m i).length by omega]
    simp only [upL]
    rw [e]
    exact h2
theorem up2_next {m : List (Int × Int)} {l : List (Int × Int × Int)} {s : Nat → Int × Int} (hm : MOk m) {sl : List (Int × Int)} (hsl : sl.length = m.length) {i : Nat} (hi : i < m.length) (h : DnP m l s (fun x => parW m x < (i : Int)) (sF sl)) :
    DnP m l s (fun x => parW m x < ((i + 1 : Nat) : Int)) (sF (upL m i sl (kids m i).length)) :=
  (up2_all hm hsl hi h _ (Nat.le_refl _)).iff fun x h0 hx => by
    unfold PJ
    rw [List.take_length, mem_kids]
    omega

def FlPost (m : List (Int × Int)) (l : List (Int × Int × Int)) (w : World) (e : Ending) (w' : World) : Prop :=
  ∃ S sl r, e = .returned (.tuple #[.slice (some ⟨S, 0, none⟩) m.length m.length, .bool r]) ∧ w.heap.size ≤ S ∧ SpB w' S sl ∧ sl.length = m.length ∧ Below w.heap.size w w' ∧ ((r = true ∧ IsSpans m l (sF sl)) ∨ (r = false ∧ ¬ ∃ x, Feas m l x))
def J1 (m : List (Int × Int)) (l : List (Int × Int × Int)) (w : World) (tb T ofb sb S rb : Nat) (k : Nat) (W : World) : Prop :=
  Below w.heap.size w W ∧ ∃ sl rr, FlMem W w.heap.size tb T ofb sb S rb m.length sl rr ∧ ((rr = true ∧ UpTo m l (m.length - k) (sF sl)) ∨ (rr = false ∧ ¬ ∃ x, Feas m l x))
def J2 (m : List (Int × Int)) (l : List (Int × Int × Int)) (w : World) (tb T ofb sb S rb : Nat) (k : Nat) (W : World) : Prop :=
  Below w.heap.size w W ∧ ∃ sl rr, FlMem W w.heap.size tb T ofb sb S rb m.length sl rr ∧ ((rr = true ∧ ∃ s, DnP m l s (fun x => parW m x < (k : Int)) (sF sl)) ∨ (rr = false ∧ ¬ ∃ x, Feas m l x))
section
variable {m : List (Int × Int)} {l : List (Int × Int × Int)} {w W : World} {tb T ofb sb S rb k : Nat}
theorem J1.to2 (hm : MOk m) (h : J1 m l w tb T ofb sb S rb m.length W) : J2 m l w tb T ofb sb S rb 0 W := by
  obtain ⟨hB, sl, rr, hM, h⟩ := h
  refine ⟨hB, sl, rr, hM, ?_⟩
  rcases h with ⟨h1, h2⟩ | h
  · rw [Nat.sub_self] at h2
    exact .inl ⟨h1, _, DnP.start hm h2 _ fun x h0 hx => by have := hm.par x h0 hx; omega⟩
  · exact .inr h
theorem J1.step {A : Option Addr} {c : Nat} (hT : TreeAt w T A c m) (hk : k < m.length) (h : J1 m l w tb T ofb sb S rb k W) :
    Calls Tryd.prog 60 (#[I ((m.length : Int) - 1 - (k : Int))] ++ #[.pointer (some ⟨tb, 0, none⟩), .pointer (some ⟨ofb, 0, none⟩), .pointer (some ⟨sb, 0, none⟩), .pointer (some ⟨rb, 0, none⟩)]) W fun e w' => e = .returned (.tuple #[]) ∧ J1 m l w tb T ofb sb S rb (k + 1) w' := by
  obtain ⟨hB, sl, rr, hM, h⟩ := h
  have e : ((m.length : Int) - 1 - (k : Int)) = ((m.length - 1 - k : Nat) : Int) := by omega
  rw [e]
  refine (clo60 w.heap.size tb T ofb sb S rb A c m sl rr (m.length - 1 - k) (by omega) W hM (hT.call hB)).mono fun e w' ⟨h1, h2, h3⟩ => ⟨h1, hB.trans (h3.below hB.size (fun b hb hbS => by have := hM.lo; rcases hbS with h | h <;> omega)), _, _, h2, ?_⟩
  rcases h with ⟨rfl, h4⟩ | ⟨rfl, h4⟩
  · have h5 := up_step hT.ok hM.len (show m.length - 1 - k < m.length by omega) (by rw [show m.length - 1 - k + 1 = m.length - k by omega]; exact h4)
    rw [show m.length - (k + 1) = m.length - 1 - k by omega]
    by_cases hle : (newL m sl (m.length - 1 - k)).1 ≤ (newL m sl (m.length - 1 - k)).2
    · exact .inl ⟨by simp [hle], h5.1 hle⟩
    · exact .inr ⟨by simp [hle], h5.2 hle⟩
  · exact .inr ⟨by simp, h4⟩
theorem J2.step {A : Option Addr} {c : Nat} (hT : TreeAt w T A c m) (hk : k < m.length) (h : J2 m l w tb T ofb sb S rb k W) :
    Calls Tryd.prog 64 (#[I (k : Int)] ++ #[.pointer (some ⟨tb, 0, none⟩), .pointer (some ⟨ofb, 0, none⟩), .pointer (some ⟨sb, 0, none⟩)]) W fun e w' => e = .returned (.tuple #[]) ∧ J2 m l w tb T ofb sb S rb (k + 1) w' := by
  obtain ⟨hB, sl, rr, hM, h⟩ := h
  refine (clo64 tb T ofb sb S rb A c m sl rr k hk w W hT hB hM).mono fun e w' ⟨h1, h2, h3⟩ => ⟨h1, hB.trans (h3.below hB.size (fun b hb hbS => by have := hM.lo; omega)), _, _, h2, ?_⟩
  rcases h with ⟨rfl, s, h4⟩ | ⟨rfl, h4⟩
  · exact .inl ⟨rfl, s, up2_next hT.ok hM.len hk h4⟩
  · exact .inr ⟨rfl, h4⟩
end
theorem toldL_up {m : List (Int × Int)} (l : List (Int × Int × Int)) : UpTo m l m.length (sF (toldL l m.length)) :=
  ⟨fun i h1 h2 => by omega, fun i h1 h2 => by simp [sF, List.getD, toldL, h2]⟩

theorem j1_start {m : List (Int × Int)} {l : List (Int × Int × Int)} {w w1 : World} {T S : Nat} (hB : Below w.heap.size w w1) (hz : w.heap.size < w1.heap.size) (hS : w.heap.size + 1 ≤ S) (hS2 : SpB w1 S (toldL l m.length)) (htb : w1.cell? ⟨w.heap.size, 0, none⟩ = some (.pointer (some ⟨T, 0, none⟩))) :
    J1 m l w w.heap.size T (w1.heap.size + 1) w1.heap.size S (w1.heap.size + 1 + 1) 0 (((w1.alloc (.cells #[.slice (some ⟨S, 0, none⟩) m.length m.length] 63)).alloc (.cells #[.func (.func 59) #[] #[.pointer (some ⟨w1.heap.size, 0, none⟩)]] 100)).alloc (.cells #[.bool true] 4)) := by
  have hSz := hS2.1
  have hB3 : Below w1.heap.size w1 (((w1.alloc (.cells #[.slice (some ⟨S, 0, none⟩) m.length m.length] 63)).alloc (.cells #[.func (.func 59) #[] #[.pointer (some ⟨w1.heap.size, 0, none⟩)]] 100)).alloc (.cells #[.bool true] 4)) := by (repeat' (first | assumption | exact Below.refl _ _ | refine Below.drew ?_ | refine below_drewN ?_ _ | refine Below.setCell ?_ (by first | omega | (simp; done) | (simp; omega)) _ | refine Below.alloc ?_ (by first | omega | (simp; done) | (simp; omega)) _ | refine Below.trans ?_ (Below.mono (by assumption) (by first | omega | (simp; done) | (simp; omega)))))
  refine ⟨hB.trans (hB3.mono hB.size), toldL l m.length, true, ⟨⟨Nat.le_refl _, by omega, by omega, by omega, by omega⟩, by simp; omega, by omega, (hB3.cell (p := ⟨_, _, none⟩) hz).trans htb, by simp [go_sem], by simp [go_sem], toldL_len _ _, hS2.call hB3, by simp [go_sem], by simp [go_sem]⟩, .inl ⟨rfl, ?_⟩⟩
  exact toldL_up l

set_option maxRecDepth 100000 in
set_option maxHeartbeats 4000000 in
theorem flows40 (T : Nat) (A B : Option Addr) (c cb : Nat) (m : List (Int × Int)) (l : List (Int × Int × Int)) (w : World) (hT : TreeAt w T A c m) (hl : Threes w w.heap.size B l) (hll : l.length ≤ 9223372036854775807) (hv : ∀ k (h : k < l.length), rdP m.length l[k]) :
    Calls Tryd.prog 40 #[.pointer (some ⟨T, 0, none⟩), .slice B l.length cb] w (FlPost m l w) := by
  have HT := Lib.hid hT
  have hTz := hT.hT
  have hn16 := hT.ok.le
  obtain ⟨mb, hmz, hmc, t2, t3⟩ := hT.fns
  have HTL : Hid (∀ W, Below w.heap.size w W → Calls Tryd.prog 46 #[.pointer (some ⟨T, 0, none⟩), .slice B l.length cb] W fun e w' => ∃ S, e = .returned (.slice (some ⟨S, 0, none⟩) m.length m.length) ∧ W.heap.size ≤ S ∧ SpB w' S (toldL l m.length) ∧ Below W.heap.size W w') := Lib.hid fun W hB =>
    told46 mulOk T c m.length A B cb l W (by have := hB.size; omega) ((hB.cell (p := ⟨_, _, none⟩) hTz).trans hT.c0) ⟨hT.ok.pos, hn16⟩ ((hl.below hB).more hB.size) hll hv
  have HMB := Lib.hid hmc
  have HJ1 : Hid (∀ tb ofb sb S rb W, J1 m l w tb T ofb sb S rb 0 W → Calls Tryd.prog 71 #[.func (.func 60) #[] #[.pointer (some ⟨tb, 0, none⟩), .pointer (some ⟨ofb, 0, none⟩), .pointer (some ⟨sb, 0, none⟩), .pointer (some ⟨rb, 0, none⟩)], .pointer (some ⟨mb, 0, none⟩)] W fun e w' => e = .returned (.tuple #[]) ∧ J2 m l w tb T ofb sb S rb 0 w') := Lib.hid fun tb ofb sb S rb W hJ =>
    (down71 60 _ (enters_of Tryd.func60 (by kernel_rfl) rfl) mb c m.length A (J1 m l w tb T ofb sb S rb) W (by omega) (fun k W' h => ⟨by have := h.1.size; omega, (h.1.cell (p := ⟨_, _, none⟩) hmz).trans hmc⟩) hJ (fun k hk W' h => h.step hT hk)).mono fun e w' ⟨h1, h2⟩ => ⟨h1, h2.to2 hT.ok⟩
  have HJ2 : Hid (∀ tb ofb sb S rb W, J2 m l w tb T ofb sb S rb 0 W → Calls Tryd.prog 72 #[.func (.func 64) #[] #[.pointer (some ⟨tb, 0, none⟩), .pointer (some ⟨ofb, 0, none⟩), .pointer (some ⟨sb, 0, none⟩)], .pointer (some ⟨mb, 0, none⟩)] W fun e w' => e = .returned (.tuple #[]) ∧ J2 m l w tb T ofb sb S rb m.length w') := Lib.hid fun tb ofb sb S rb W hJ =>
    up72 64 _ (enters_of Tryd.func64 (by kernel_rfl) rfl) mb c m.length A (J2 m l w tb T ofb sb S rb) W (by omega) (fun k W' h => ⟨by have := h.1.size; omega, (h.1.cell (p := ⟨_, _, none⟩) hmz).trans hmc⟩) hJ (fun k hk W' h => h.step hT hk)
  clear hT hl hv hmc
  go_enter Tryd.func40, Tryd.ntmps40
  go_wp2_with (first
    | (go_at_call 46; refine (HTL.out _ (by (repeat' (first | assumption | exact Below.refl _ _ | refine Below.drew ?_ | refine below_drewN ?_ _ | refine Below.setCell ?_ (by first | omega | (simp; done) | (simp; omega)) _ | refine Below.alloc ?_ (by first | omega | (simp; done) | (simp; omega)) _ | refine Below.trans ?_ (Below.mono (by assumption) (by first | omega | (simp; done) | (simp; omega))))))).mono ?_; rintro e w1 ⟨S, rfl, hS1, hS2, hB1⟩; have HS1 := Lib.hid hS1; have HS2 := Lib.hid hS2; have hz1 : w.heap.size < w1.heap.size := (by have := hB1.size; simp at this; omega); have tbc : w1.cell? ⟨w.heap.size, 0, none⟩ = some (.pointer (some ⟨T, 0, none⟩)) := ((hB1.cell (p := ⟨_, _, none⟩) (by simp)).trans (by simp [go_sem])); have hBw : Below w.heap.size w w1 := below_call (by (repeat' (first | assumption | exact Below.refl _ _ | refine Below.drew ?_ | refine below_drewN ?_ _ | refine Below.setCell ?_ (by first | omega | (simp; done) | (simp; omega)) _ | refine Below.alloc ?_ (by first | omega | (simp; done) | (simp; omega)) _ | refine Below.trans ?_ (Below.mono (by assumption) (by first | omega | (simp; done) | (simp; omega)))))) hB1; have t2' := ((hBw.cell (p := ⟨T, 2, none⟩) hTz).trans t2); clear hB1 hS1 hS2;
       have ha1 : w.heap.size < w1.heap.size + 1 := (by omega); have ha2 : w.heap.size < w1.heap.size + 1 + 1 := (by omega); have ha3 : T < w1.heap.size := (by omega); have ha4 : T < w1.heap.size + 1 := (by omega); have ha5 : T < w1.heap.size + 1 + 1 := (by omega))
    | (go_at_call 71; refine (HJ1.out _ _ _ S _ _ (j1_start hBw hz1 (by simpa using HS1.out) HS2.out tbc)).mono ?_; rintro e w2 ⟨rfl, hJ⟩; have HJ := Lib.hid hJ; clear hJ;
       obtain ⟨hBJ, sl, rr, hMJ, _⟩ := HJ.out; have tb2 := hMJ.tbc; have t3' := (hBJ.cell (p := ⟨T, 3, none⟩) hTz).trans t3; have hz2 : w.heap.size < w2.heap.size := hMJ.hi.1; have hT2 : T < w2.heap.size := (by omega); clear hMJ hBJ)
    | (go_at_call 72; refine (HJ2.out _ _ _ S _ _ HJ.out).mono ?_; rintro e w3 ⟨rfl, hJ3⟩; have HJ3 := Lib.hid hJ3; clear hJ3)
    | fail)
  obtain ⟨hB3, sl3, rr3, hM3, hS3⟩ := HJ3.out
  have c1 := hM3.sbc
  have c2 := hM3.rbc
  obtain ⟨_, _, z3, z4⟩ := hM3.hi
  have HM3 := Lib.hid hM3
  have HS3 := Lib.hid hS3
  clear hM3 hS3
  go_quiet (fail)
  go_wp2
  go_ret2
  exact ⟨S, sl3, rr3, rfl, by have := HM3.out.lo; omega, HM3.out.sp, HM3.out.len, below_drewN hB3 _, HS3.out.imp (fun ⟨h1, s, h2⟩ => ⟨h1, h2.spans HT.out.ok (fun x h0 hx => by have := HT.out.ok.par x h0 hx; omega)⟩) id⟩
end Go.Proofs.YtgdilbilhajgaaaDoor
