/- The search for the fewest sources, of the program. -/
import Derived.Test.YtijgfdncocjncaaS9
namespace Go.Proofs.Ytijgfdncocjncaa
set_option linter.unusedVariables false
set_option linter.unusedSimpArgs false
open Go Go.RowKit

def EE (x : Wat) (t f i : Nat) : Bool := expP x f t i
theorem lnk_len (t : Nat) (q : List Nat) : (lnk t q).length = q.length := by simp [lnk]
theorem lnk_app (t : Nat) (q : List Nat) (f : Nat) : lnk t (q ++ [f]) = lnk t q ++ [((f : Int), (t : Int))] := by simp [lnk]
theorem flat_lnk (t : Nat) (q : List Nat) (f : Nat) : flat2 (lnk t (q ++ [f])) = flat2 (lnk t q) ++ [I f, I t] := by rw [lnk_app, flat2_app]; simp [flat2]
/-- What lies still while the search goes on. -/
structure TryC (W : World) (x : Wat) (t G Ob Bb Tb Yb N0 : Nat) : Prop where
  z : N0 ≤ W.heap.size
  lt : G < N0 ∧ Ob < N0 ∧ Bb < N0 ∧ Tb < N0 ∧ Yb < N0
  ne : Ob ≠ Bb ∧ Tb ≠ Ob ∧ Tb ≠ Bb ∧ Yb ≠ Ob ∧ Yb ≠ Bb ∧ G ≠ Ob ∧ G ≠ Bb
  tb : W.cell? ⟨Tb, 0, none⟩ = some (I t)
  yb : W.cell? ⟨Yb, 0, none⟩ = some (.func (.func 52) #[] #[.pointer (some ⟨Ob, 0, none⟩), .pointer (some ⟨Bb, 0, none⟩), .pointer (some ⟨Tb, 0, none⟩), .pointer (some ⟨Yb, 0, none⟩)])
  src : ∀ k (h : k < (srcs x t).length), W.cell? ⟨G, k * 2, none⟩ = some (I ((srcs x t)[k] : Nat)) ∧ W.cell? ⟨G, k * 2 + 1, none⟩ = some (U64 (setN (EE x t (srcs x t)[k])))
abbrev SOB (Ob Bb : Nat) : Nat → Prop := fun k => k = Ob ∨ k = Bb
theorem TryC.frm {W W' : World} {x : Wat} {t G Ob Bb Tb Yb N0 : Nat} (h : TryC W x t G Ob Bb Tb Yb N0) (hF : Frm N0 (SOB Ob Bb) W W') : TryC W' x t G Ob Bb Tb Yb N0 := by
  obtain ⟨l1, l2, l3, l4, l5⟩ := h.lt
  obtain ⟨n1, n2, n3, n4, n5, n6, n7⟩ := h.ne
  exact ⟨Nat.le_trans h.z hF.size, h.lt, h.ne, (hF.cell l4 (by simp [n2, n3])).trans h.tb, (hF.cell l5 (by simp [n4, n5])).trans h.yb, fun k hk => ⟨(hF.cell l1 (by simp [n6, n7])).trans (h.src k hk).1, (hF.cell l1 (by simp [n6, n7])).trans (h.src k hk).2⟩⟩
/-- What the search leaves. -/
def TryP (W : World) (t Ob Bb N0 : Nat) (q : List Nat) : Option (List Nat) → Prop
  | none => (∃ v, Boxed W Ob 74 v ∧ W.ownsRow N0 84 2 v q.length (flat2 (lnk t q))) ∧ ∃ vb, Boxed W Bb 74 vb
  | some m => ∃ A c, Boxed W Bb 74 (.slice A (q ++ m).length c) ∧ Twos W W.heap.size A (lnk t (q ++ m)) ∧ ∀ b off, A = some ⟨b, off, none⟩ → N0 ≤ b
def TryIs (x : Wat) (t G Ob Bb Tb Yb N0 c : Nat) : Prop := ∀ (i : Nat) (R : Option Addr) (cap : Nat) (left : Nat → Bool) (q : List Nat) (v vb : Value) (W : World), i ≤ (srcs x t).length → (srcs x t).length - i ≤ cap → (i < (srcs x t).length → R = some ⟨G, i * 2, none⟩) → q.length + c ≤ 12 →
  TryC W x t G Ob Bb Tb Yb N0 → Boxed W Ob 74 v → W.ownsRow N0 84 2 v q.length (flat2 (lnk t q)) → Boxed W Bb 74 vb →
  Calls Try.prog 52 #[.slice R ((srcs x t).length - i) cap, U64 (setN left), I c, .pointer (some ⟨Ob, 0, none⟩), .pointer (some ⟨Bb, 0, none⟩), .pointer (some ⟨Tb, 0, none⟩), .pointer (some ⟨Yb, 0, none⟩)] W fun e w' =>
    e = .returned (.bool (tryF (EE x t) ((srcs x t).drop i) left c).isSome) ∧ Frm N0 (SOB Ob Bb) W w' ∧ TryP w' t Ob Bb N0 q (tryF (EE x t) ((srcs x t).drop i) left c)
theorem tryF_zero (E : Nat → Nat → Bool) (l : List Nat) (left : Nat → Bool) (c : Nat) (h : noneB left = true) : tryF E l left c = some [] := by
  cases l with
  | nil => unfold tryF; rw [if_pos h]
  | cons a l => cases c <;> (unfold tryF; rw [if_pos h])
theorem tryF_stop (E : Nat → Nat → Bool) (l : List Nat) (left : Nat → Bool) (h : noneB left = false) : tryF E l left 0 = none := by
  cases l with
  | nil => unfold tryF; rw [h]; rfl
  | cons a l => unfold tryF; rw [h]; rfl
theorem tryF_end (E : Nat → Nat → Bool) (left : Nat → Bool) (c : Nat) (h : noneB left = false) : tryF E [] left c = none := by unfold tryF; rw [h]; rfl
theorem tryF_cons (E : Nat → Nat → Bool) (f : Nat) (l : List Nat) (left : Nat → Bool) (c : Nat) (h : noneB left = false) : tryF E (f :: l) left (c + 1) = match tryF E l (fun i => left i && !E f i) c with
    | some m => some (f :: m)
    | none => tryF E l left (c + 1) := by
  conv => lhs; unfold tryF
  rw [h]
  rfl
theorem twos_below_ {W W' : World} {A : Option Addr} {l : List (Int × Int)} (h : Twos W W.heap.size A l) (hB : Below W.heap.size W W') : Twos W' W'.heap.size A l := (h.below hB).more hB.size
theorem set74 {W : World} {B : Nat} {u v : Value} (h : Boxed W B 74 u) : Boxed (W.setCell ⟨B, 0, none⟩ v) B 74 v := h.set v
theorem boxed_far {W : World} {B b : Nat} {t : TypeId} {u v : Value} (h : Boxed W B t u) (hb : b ≠ B) : Boxed (W.setCell ⟨b, 0, none⟩ v) B t u := h.kept (grownBy_setCell' W b v) (fun e => hb (Option.some.inj e).symm)
set_option maxRecDepth 100000 in
set_option maxHeartbeats 2000000 in
theorem try_zero (x : Wat) (t G Ob Bb Tb Yb N0 c i : Nat) (R : Option Addr) (n cap : Nat) (left : Nat → Bool) (q : List Nat) (v vb : Value) (w : World) (hl : noneB left = true) (hq : q.length + c ≤ 12) (hC : TryC w x t G Ob Bb Tb Yb N0) (hO : Boxed w Ob 74 v) (hrow : w.ownsRow N0 84 2 v q.length (flat2 (lnk t q))) (hb : Boxed w Bb 74 vb) :
    Calls Try.prog 52 #[.slice R n cap, U64 (setN left), I c, .pointer (some ⟨Ob, 0, none⟩), .pointer (some ⟨Bb, 0, none⟩), .pointer (some ⟨Tb, 0, none⟩), .pointer (some ⟨Yb, 0, none⟩)] w fun e w' =>
      e = .returned (.bool true) ∧ Frm N0 (SOB Ob Bb) w w' ∧ TryP w' t Ob Bb N0 q (some []) := by
  have hcl := Lib.hid (clone53 N0 v (lnk t q) w (by rw [lnk_len]; exact hrow) (by rw [lnk_len]; omega))
  have hOc := hO.cell
  have HB := Lib.hid hb
  have hBz := hb.lt
  have hz := hC.z
  rw [noneB_iff.1 hl]
  clear hl hrow hO
  go_enter Try.func52, Try.ntmps52
  go_wp2_with (first | (go_at_call 53; refine hcl.out.mono ?_; rintro e w1 ⟨A, c1, rfl, htw, hA, hB1⟩; have hb1 := HB.out.kept (grown_of_below hB1) (by simp); have b0 := hb1.cell; have b1 := hb1.frozen) | fail)
  have hsz := hB1.size
  refine bodyPost_ret (v := .bool true) (by simp [results, Try.results52, go_sem]) rfl ⟨rfl, ?_, A, c1, ?_, ?_, fun b off h => Nat.le_trans hz (hA b off h)⟩
  · exact (Frm.of_below hB1 hz).setCell (.inr (.inr rfl)) _
  · rw [List.append_nil, ← lnk_len t q]
    exact hb1.set _
  · rw [List.append_nil]
    intro h0
    obtain ⟨b, off, rfl, h1, h2⟩ := htw h0
    have h3 := hA b off rfl
    have hg := grownBy_setCell' w1 Bb (.slice (some ⟨b, off, none⟩) (lnk t q).length c1)
    have hne : some b ≠ some Bb := fun e => by injection e with e; omega
    exact ⟨b, off, rfl, by have := hg.size; omega, fun k hk => ⟨(World.cell?_of_block (a := ⟨b, _, none⟩) (hg.block b h1 hne)).trans (h2 k hk).1, (World.cell?_of_block (a := ⟨b, _, none⟩) (hg.block b h1 hne)).trans (h2 k hk).2⟩⟩
set_option maxRecDepth 100000 in
set_option maxHeartbeats 2000000 in
theorem try_stop (x : Wat) (t G Ob Bb Tb Yb N0 : Nat) (R : Option Addr) (n cap : Nat) (left : Nat → Bool) (q : List Nat) (v vb : Value) (w : World) (hl : noneB left = false) (hO : Boxed w Ob 74 v) (hrow : w.ownsRow N0 84 2 v q.length (flat2 (lnk t q))) (hb : Boxed w Bb 74 vb) :
    Calls Try.prog 52 #[.slice R n cap, U64 (setN left), I (0 : Nat), .pointer (some ⟨Ob, 0, none⟩), .pointer (some ⟨Bb, 0, none⟩), .pointer (some ⟨Tb, 0, none⟩), .pointer (some ⟨Yb, 0, none⟩)] w fun e w' =>
      e = .returned (.bool false) ∧ Frm N0 (SOB Ob Bb) w w' ∧ TryP w' t Ob Bb N0 q none := by
  have hs0 : ¬ setN left = 0 := fun e => by rw [noneB_iff.2 e] at hl; cases hl
  have HO : Hid (TryP w t Ob Bb N0 q none) := Lib.hid ⟨⟨v, hO, hrow⟩, vb, hb⟩
  generalize setN left = sl at *
  have hs1 : ¬ (sl : Int) = 0 := by omega
  clear hl hO hrow hb hs0
  go_enter Try.func52, Try.ntmps52
  go_wp2_with (fail)
  go_loopw [11] (fun s11 wr => s11 = I (0 : Nat) ∧ wr = w) (fun _ _ => 0)
  case atStart => exact ⟨rfl, rfl⟩
  case round =>
    obtain ⟨rfl, rfl⟩ := hrel
    cases n with
    | zero =>
      go_wp2_with (fail)
      refine bodyPost_ret (v := .bool false) (by simp [results, Try.results52, go_sem]) rfl ⟨rfl, Frm.refl _ _ _, HO.out⟩
    | succ n =>
      have hnn : (0 : Int) < ((n + 1 : Nat) : Int) := by omega
      go_wp2_with (fail)
      refine bodyPost_ret (v := .bool false) (by simp [results, Try.results52, go_sem]) rfl ⟨rfl, Frm.refl _ _ _, HO.out⟩
theorem slice97 (R : Option Addr) (n c j : Nat) (h : j + 1 ≤ n) (w : World) : (Instr.sliceAt 97 (.slice R n c) (some (.int .i64 ((j : Int) + 1))) none none).run Try.prog w = .ok (.slice (if c = j + 1 then R else R.map (·.add ((j + 1) * 2))) (n - (j + 1)) (c - (j + 1))) w := by
  have u97 : Try.prog.underlying 97 = some (.slice (Try.prog.elem 97)) := by kernel_rfl
  have s83 : ∀ w, (sizeOf (Try.prog.elem 97)).run Try.prog w = .ok 2 w := fun w => by kernel_rfl
  rw [run_sliceAt_slice (h := u97), run_slice_l (ht := u97) (h0 := by omega) (h1 := by omega), s83]
  simp only [Result.andThen, sliced]
  rw [show ((j : Int) + 1).toNat = j + 1 by omega]
theorem slice74 (g k c : Nat) (h : k + 1 ≤ c) (w : World) : (Instr.sliceAt 74 (.slice (some ⟨g, 0, none⟩) (k + 1) c) none (some (.int .i64 (k : Int))) none).run Try.prog w = .ok (.slice (some ⟨g, 0, none⟩) k c) w := by
  have u74 : Try.prog.underlying 74 = some (.slice (Try.prog.elem 74)) := by kernel_rfl
  have s84 : ∀ w, (sizeOf (Try.prog.elem 74)).run Try.prog w = .ok 2 w := fun w => by kernel_rfl
  rw [run_sliceAt_slice (h := u74), run_slice_h (ht := u74) (h0 := by omega) (h2 := by omega), s84]
  simp only [Result.andThen, sliced]
  rw [if_neg (by omega)]
  simp [Addr.add]
set_option maxRecDepth 100000 in
set_option maxHeartbeats 4000000 in
theorem try52_step (x : Wat) (t G Ob Bb Tb Yb N0 c : Nat) (hn6 : (srcs x t).length ≤ 6) (ih : TryIs x t G Ob Bb Tb Yb N0 c) (i : Nat) (R : Option Addr) (cap : Nat) (left : Nat → Bool) (q : List Nat) (v vb : Value) (w : World) (hl : noneB left = false) (hi : i ≤ (srcs x t).length) (hcap : (srcs x t).length - i ≤ cap) (hR : i < (srcs x t).length → R = some ⟨G, i * 2, none⟩) (hq : q.length + (c + 1) ≤ 12)
    (hC : TryC w x t G Ob Bb Tb Yb N0) (hO : Boxed w Ob 74 v) (hrow : w.ownsRow N0 84 2 v q.length (flat2 (lnk t q))) (hb : Boxed w Bb 74 vb) :
    Calls Try.prog 52 #[.slice R ((srcs x t).length - i) cap, U64 (setN left), I (c + 1 : Nat), .pointer (some ⟨Ob, 0, none⟩), .pointer (some ⟨Bb, 0, none⟩), .pointer (some ⟨Tb, 0, none⟩), .pointer (some ⟨Yb, 0, none⟩)] w fun e w' =>
      e = .returned (.bool (tryF (EE x t) ((srcs x t).drop i) left (c + 1)).isSome) ∧ Frm N0 (SOB Ob Bb) w w' ∧ TryP w' t Ob Bb N0 q (tryF (EE x t) ((srcs x t).drop i) left (c + 1)) := by
  have HCX := Lib.hid hC
  obtain ⟨i0, hi0, hi1, hi2, hi3⟩ := info_parts info84
  have hs0 : ¬ setN left = 0 := fun e => by rw [noneB_iff.2 e] at hl; cases hl
  have hsl := setN_lt left
  have HSN : Hid (∀ f, setN (fun b => left b && !EE x t f b) = setN left &&& (18446744073709551615 - setN (EE x t f))) := Lib.hid fun f => (setN_not left (EE x t f)).symm
  have HDC : Hid (∀ j (h : i + j < (srcs x t).length), (srcs x t).drop (i + j) = (srcs x t)[i + j] :: (srcs x t).drop (i + (j + 1))) := Lib.hid fun j h => List.drop_eq_getElem_cons h
  have HO0 : Hid (∃ v, Boxed w Ob 74 v ∧ w.ownsRow N0 84 2 v q.length (flat2 (lnk t q))) := Lib.hid ⟨v, hO, hrow⟩
  have HB0 : Hid (∃ vb, Boxed w Bb 74 vb) := Lib.hid ⟨vb, hb⟩
  obtain ⟨n, hn⟩ : ∃ n, (srcs x t).length = n := ⟨_, rfl⟩
  have HIH := Lib.hid ih
  clear hC hO hrow hb ih
  obtain ⟨sl, hsl2⟩ : ∃ sl, setN left = sl := ⟨_, rfl⟩
  have HSL := Lib.hid hsl2
  rw [hsl2] at hs0 hsl ⊢
  have hs1 : ¬ (sl : Int) = 0 := by omega
  clear hsl2
  rw [hn] at hi hcap hR hn6 ⊢
  have hc0 : (0 : Int) < (c : Int) + 1 := by omega
  have hsb : ((sl : Int) == 0) = false := by simpa using hs1
  rw [show ((c + 1 : Nat) : Int) = (c : Int) + 1 by omega]
  go_enter Try.func52, Try.ntmps52
  go_wp2_with (fail)
  go_loopw [11] (fun s11 wr => ∃ j : Nat, i + j ≤ n ∧ s11 = I j ∧ Hid (Frm N0 (SOB Ob Bb) w wr) ∧ Hid (∃ v, Boxed wr Ob 74 v ∧ wr.ownsRow N0 84 2 v q.length (flat2 (lnk t q))) ∧ Hid (∃ vb, Boxed wr Bb 74 vb) ∧ Hid (tryF (EE x t) ((srcs x t).drop i) left (c + 1) = tryF (EE x t) ((srcs x t).drop (i + j)) left (c + 1))) (fun s _ => n - i - (intOf s).toNat)
  case atStart => exact ⟨0, by omega, rfl, Lib.hid (Frm.refl _ _ _), HO0, HB0, Lib.hid rfl⟩
  case round =>
    clear HO0 HB0
    obtain ⟨j, hj, rfl, HF, HO, HB, HT⟩ := hrel
    by_cases hlt : i + j < n
    · obtain ⟨v, hv, hrow⟩ := HO.out
      obtain ⟨vb, hvb⟩ := HB.out
      have HC := Lib.hid (HCX.out.frm HF.out)
      obtain ⟨b0, b1⟩ := HC.out.src (i + j) (by rw [hn]; exact hlt)
      have HSRC : Hid (∀ W, TryC W x t G Ob Bb Tb Yb N0 → W.cell? ⟨G, (i + j) * 2, none⟩ = some (I ((srcs x t)[i + j] : Nat)) ∧ W.cell? ⟨G, (i + j) * 2 + 1, none⟩ = some (U64 (setN (EE x t (srcs x t)[i + j])))) := Lib.hid fun W h => h.src (i + j) (by rw [hn]; exact hlt)
      obtain ⟨l1, l2, l3, l4, l5⟩ := HC.out.lt
      obtain ⟨n1, n2, n3, n4, n5, n6, n7⟩ := HC.out.ne
      have hz := HC.out.z
      have t0 := HC.out.tb
      have y0 := HC.out.yb
      have o0 := hv.cell
      obtain rfl := hR (by omega)
      have HD := Lib.hid (HDC.out j (by rw [hn]; exact hlt))
      have e0 : i * 2 + j * 2 = (i + j) * 2 := by omega
      have p0 : (0 : Int) ≤ (j : Int) := by omega
      have p1 : (j : Int) < ((n - i : Nat) : Int) := by omega
      generalize (srcs x t)[i + j] = f at *
      have hsf := setN_lt (EE x t f)
      have HSf := Lib.hid (HSN.out f)
      rw [HSL.out] at HSf
      have hsd := setN_lt (fun b => left b && !EE x t f b)
      rw [HSf.out] at hsd
      have HTC : Hid (tryF (EE x t) ((srcs x t).drop i) left (c + 1) = match tryF (EE x t) ((srcs x t).drop (i + (j + 1))) (fun b => left b && !EE x t f b) c with
        | some m => some (f :: m)
        | none => tryF (EE x t) ((srcs x t).drop (i + (j + 1))) left (c + 1)) := Lib.hid (by rw [HT.out, HD.out, tryF_cons _ _ _ _ _ hl])
      have HNX : Hid (∀ (R' : Option Addr) (v vb : Value) (W : World), (i + (j + 1) < n → R' = some ⟨G, (i + (j + 1)) * 2, none⟩) → TryC W x t G Ob Bb Tb Yb N0 → Boxed W Ob 74 v → W.ownsRow N0 84 2 v (q.length + 1) (flat2 (lnk t q) ++ [I f, I t]) → Boxed W Bb 74 vb →
          Calls Try.prog 52 #[.slice R' (n - i - (j + 1)) (cap - (j + 1)), U64 (setN (fun b => left b && !EE x t f b)), I c, .pointer (some ⟨Ob, 0, none⟩), .pointer (some ⟨Bb, 0, none⟩), .pointer (some ⟨Tb, 0, none⟩), .pointer (some ⟨Yb, 0, none⟩)] W fun e w' =>
            e = .returned (.bool (tryF (EE x t) ((srcs x t).drop (i + (j + 1))) (fun b => left b && !EE x t f b) c).isSome) ∧ Frm N0 (SOB Ob Bb) W w' ∧ TryP w' t Ob Bb N0 (q ++ [f]) (tryF (EE x t) ((srcs x t).drop (i + (j + 1))) (fun b => left b && !EE x t f b) c)) := Lib.hid fun R' v vb W h1 h2 h3 h4 h5 => by
        have h := HIH.out (i + (j + 1)) R' (cap - (j + 1)) (fun b => left b && !EE x t f b) (q ++ [f]) v vb W (by omega) (by omega) (by rw [hn]; exact h1) (by simp; omega) h2 h3 (by rw [flat_lnk, List.length_append]; exact h4) h5
        rw [show (srcs x t).length - (i + (j + 1)) = n - i - (j + 1) by omega] at h
        exact h
      rw [HSf.out] at HNX
      generalize tryF (EE x t) ((srcs x t).drop (i + (j + 1))) (fun b => left b && !EE x t f b) c = o at *
      generalize setN (EE x t f) = sf at *
      have hanu := andNotU sl sf hsl hsf
      have hwu := wrapU _ hsd
      generalize sl &&& (18446744073709551615 - sf) = sd at *
      have HV := Lib.hid hv
      have HRW := Lib.hid hrow
      clear HO HB HDC hv hrow
      go_wp2_with (fail)
      have hrA : (wr.alloc (.cells #[I f, I t] 84)).drew.ownsRow N0 84 2 v q.length (flat2 (lnk t q)) := (HRW.out.alloc _).drew
      have hvA : Boxed (wr.alloc (.cells #[I f, I t] 84)) Ob 74 v := HV.out.alloc _
      have u74 : Try.prog.underlying 74 = some (.slice 84) := Try.underlying74
      refine (wpIn_wide (n := 9)).1 ?_
      refine wpIn_region_plan (Plan.ons [0, 1, 2, 3, 4, 5, 6, 7, 8, 9, 10] .fin) [0] (fun W' => W'.cell? ⟨Ob, 0, none⟩ = some v) [10] rfl (by kernel_rfl) (by kernel_rfl) (fun _ d _ _ _ h => by cases d <;> exact h) o0 ?_
      (refine ordQ_held (v) rfl rfl rfl rfl (fun W' hC' => ?_) (fun K hK => ?_); (focus (obtain p1 := hC'; go_simp; try exact ⟨rfl, rfl⟩)); go_simp; refine hK _ ?_; clear hK K)
      iterate 7 (refine ordQ_li rfl rfl rfl (fun K hK => ?_); go_simp; refine hK _ ?_; clear hK K)
      refine ordQ_hv rfl rfl rfl (fun K hK => ?_)
      gi_wp2
      refine hK _ _ (fun _ => hvA.cell) ?_
      clear hK K
      refine ordQ_hv rfl rfl rfl (fun K hK => ?_)
      refine opIn_append_own rfl _ _ _ 74 rfl N0 84 i0 (.agg #[I 0, I 0]) 2 16 u74 hi0 hi1 hi2 hi3 rfl (by decide) _ _ _ rfl hrA ⟨wr.heap.size, 0, none⟩ 1 1 [I f, I t] rfl rfl (cells_new wr [I f, I t] 84) (by simp [Value.oneCell']) (by simp [maxLen]; omega) (by omega) (by simp; omega) ?_
      intro v' w5 hown hgrow _
      obtain ⟨g', cap', rfl⟩ := ownsRow_succ hown
      replace hgrow : (wr.alloc (.cells #[I f, I t] 84)).grownBy w5 v.ownBlock := ⟨hgrow.os, hgrow.tape, hgrow.output, hgrow.size, hgrow.block⟩
      have hrB : (wr.alloc (.cells #[I f, I t] 84)).ownsRow N0 84 2 v q.length (flat2 (lnk t q)) := HRW.out.alloc _
      have hv1 : Boxed w5 Ob 74 v := hvA.kept hgrow (hvA.not_row (by decide) hrB)
      refine hK _ _ (fun _ => hv1.cell) ?_
      clear hK K
      refine ordQ_hv rfl rfl rfl (fun K hK => ?_)
      have hc1 := hv1.cell
      have hf1 := hv1.frozen
      gi_wp2
      refine hK _ _ (fun h => by cases h) ?_
      clear hK K
      refine ordQ_fin ?_
      have hv6 := hv1.set (.slice (some ⟨g', 0, none⟩) (q.length + 1) cap')
      have hrow6 := hown.kept (grownBy_setCell' w5 Ob (.slice (some ⟨g', 0, none⟩) (q.length + 1) cap')) (.inr (hv1.not_row (by decide) hown).symm)
      have hvb6 : Boxed (w5.setCell ⟨Ob, 0, none⟩ (.slice (some ⟨g', 0, none⟩) (q.length + 1) cap')) Bb 74 vb := boxed_far ((hvb.alloc _).kept hgrow ((hvb.alloc _).not_row (by decide) hrB)) n1
      have HF6 : Hid (Frm N0 (SOB Ob Bb) w (w5.setCell ⟨Ob, 0, none⟩ (.slice (some ⟨g', 0, none⟩) (q.length + 1) cap'))) := Lib.hid ((((HF.out).alloc hz _).grown hgrow (by simp; omega) (fun k e => .inl (HRW.out.lt k e).1)).setCell (.inr (.inl rfl)) _)
      clear hrA hvA hgrow hrB hv1 hc1 hf1 hown HF HRW HV hvb b0 b1 t0 y0 o0 HC
      generalize w5.setCell ⟨Ob, 0, none⟩ (.slice (some ⟨g', 0, none⟩) (q.length + 1) cap') = w6 at *
      have HC6 := Lib.hid (HCX.out.frm HF6.out)
      have y0 := HC6.out.yb
      obtain ⟨b0, b1⟩ := HSRC.out _ HC6.out
      have hwj : IntKind.i64.wrap ((j : Int) + 1) = (j : Int) + 1 := IntWalk.i64_in _ (by omega)
      have hwc : IntKind.i64.wrap ((c : Int) + 1 - 1) = (c : Int) := by rw [show (c : Int) + 1 - 1 = (c : Int) by omega]; exact IntWalk.i64_in _ (by omega)
      have h97 := fun W => slice97 (some ⟨G, i * 2, none⟩) (n - i) cap j (by omega) W
      obtain ⟨R', hR'⟩ : ∃ R', (if cap = j + 1 then (some ⟨G, i * 2, none⟩ : Option Addr) else (some ⟨G, i * 2, none⟩ : Option Addr).map (·.add ((j + 1) * 2))) = R' := ⟨_, rfl⟩
      rw [hR'] at h97
      have HNX6 := Lib.hid (HNX.out R' _ _ w6.drew (fun h => by
        rw [← hR', if_neg (by omega)]
        simp [Addr.add]
        try omega) (HCX.out.frm HF6.out.drew) hv6 hrow6.drew hvb6)
      clear hR'
      go_wp2_with (fail)
      refine (wpIn_wide (n := 9)).1 ?_
      refine wpIn_region_plan (Plan.ons [0, 1, 2, 3, 4, 5, 6, 7, 8, 9, 10, 11, 12, 13, 14] .fin) [] (fun _ => True) [14] rfl (by kernel_rfl) (by kernel_rfl) (fun _ d _ _ _ h => by cases d <;> exact h) trivial ?_
      iterate 14 (refine ordQ_li rfl rfl rfl (fun K hK => ?_); go_simp; refine hK _ ?_; clear hK K)
      refine ordQ_hv rfl rfl rfl (fun K hK => ?_)
      gi_wp2_with (first | (refine And.intro trivial ?_; gi_at_call 52; refine (callsIn_wide.2 HNX6.out).mono ?_; rintro e w7 ⟨rfl, hF7, hP7⟩) | fail)
      refine hK _ _ (fun h => by cases h) ?_
      clear hK K
      refine ordQ_fin ?_
      have HF7 : Hid (Frm N0 (SOB Ob Bb) w w7) := Lib.hid ((HF6.out.drew).trans hF7)
      have HP7 := Lib.hid hP7
      have htc := HTC.out
      clear HNX6 HNX HTC hF7 hP7 h97 y0 b0 b1 hv6 hrow6 hvb6 HSRC HT
      cases o with
      | none =>
        obtain ⟨⟨v8, hv8, hr8⟩, vb8, hvb8⟩ := HP7.out
        dsimp only at htc
        have HRN := Lib.hid htc
        rw [List.length_append, flat_lnk] at hr8
        have hr9 : w7.ownsRow N0 84 2 v8 (q.length + 1) (flat2 (lnk t q) ++ [I f, I t]) := hr8
        obtain ⟨g8, cap8, rfl⟩ := ownsRow_succ hr9
        have hrp := ownsRow_pop (by rw [flat2_len, lnk_len]) hr9
        have hle : q.length + 1 ≤ cap8 := by
          rcases hr9.2 with ⟨h, _⟩ | ⟨g, c', cur, h, _, _, h2, _⟩
          · cases h
          · cases h; exact h2
        have h74 := fun W => slice74 g8 q.length cap8 hle W
        have hc8 := hv8.cell
        have hf8 := hv8.frozen
        have hwq : IntKind.i64.wrap (((q.length : Int) + 1) - 1) = (q.length : Int) := by rw [show ((q.length : Int) + 1) - 1 = (q.length : Int) by omega]; exact IntWalk.i64_in _ (by omega)
        have HV9 : Hid (Boxed (w7.setCell ⟨Ob, 0, none⟩ (.slice (some ⟨g8, 0, none⟩) q.length cap8)) Ob 74 (.slice (some ⟨g8, 0, none⟩) q.length cap8)) := Lib.hid (hv8.set _)
        have HR9 : Hid ((w7.setCell ⟨Ob, 0, none⟩ (.slice (some ⟨g8, 0, none⟩) q.length cap8)).ownsRow N0 84 2 (.slice (some ⟨g8, 0, none⟩) q.length cap8) q.length (flat2 (lnk t q))) := Lib.hid (hrp.kept (grownBy_setCell' w7 Ob _) (.inr (hv8.not_row (by decide) hrp).symm))
        have HVB9 : Hid (Boxed (w7.setCell ⟨Ob, 0, none⟩ (.slice (some ⟨g8, 0, none⟩) q.length cap8)) Bb 74 vb8) := Lib.hid (boxed_far hvb8 n1)
        have HF9 : Hid (Frm N0 (SOB Ob Bb) w (w7.setCell ⟨Ob, 0, none⟩ (.slice (some ⟨g8, 0, none⟩) q.length cap8))) := Lib.hid (HF7.out.setCell (.inr (.inl rfl)) _)
        clear hv8 hr8 hr9 hrp hvb8 HP7 htc
        go_wp2_with (fail)
        go_roundw
        case rel => first | exact ⟨j + 1, by omega, by go_num, HF9, Lib.hid ⟨_, HV9.out, HR9.out⟩, Lib.hid ⟨_, HVB9.out⟩, HRN⟩ | ((repeat apply Exists.intro); refine ⟨?_, rfl⟩; exact ⟨j + 1, by omega, by go_num, HF9, Lib.hid ⟨_, HV9.out, HR9.out⟩, Lib.hid ⟨_, HVB9.out⟩, HRN⟩)
        case measure => first | (simp [intOf]; done) | (simp [intOf]; omega)
      | some m =>
        dsimp only at htc
        have HRS := Lib.hid htc
        obtain ⟨A8, c8, h8, h9, h10⟩ := HP7.out
        go_wp2_with (fail)
        refine bodyPost_ret (v := .bool true) (by simp [results, Try.results52, go_sem]) rfl ⟨by rw [HRS.out]; rfl, HF7.out, by rw [HRS.out]; exact ⟨A8, c8, by simpa using h8, by simpa using h9, h10⟩⟩
    · obtain rfl : i + j = n := by omega
      have HRN : Hid (tryF (EE x t) ((srcs x t).drop i) left (c + 1) = none) := Lib.hid (by rw [HT.out, ← hn, List.drop_length, tryF_end _ _ _ hl])
      obtain ⟨v, hv, hrow⟩ := HO.out
      obtain ⟨vb, hvb⟩ := HB.out
      have hsub : i + j - i = j := by omega
      go_wp2_with (fail)
      refine bodyPost_ret (v := .bool false) (by simp [results, Try.results52, go_sem]) rfl ⟨by rw [HRN.out]; rfl, HF.out, by rw [HRN.out]; exact ⟨⟨v, hv, hrow⟩, vb, hvb⟩⟩
theorem try52 (x : Wat) (t G Ob Bb Tb Yb N0 : Nat) (hn6 : (srcs x t).length ≤ 6) : ∀ c, TryIs x t G Ob Bb Tb Yb N0 c
  | 0 => fun i R cap left q v vb W hi hcap hR hq hC hO hrow hb => by
    cases h : noneB left
    · have h1 := try_stop x t G Ob Bb Tb Yb N0 R ((srcs x t).length - i) cap left q v vb W h hO hrow hb
      rw [tryF_stop _ _ _ h]
      exact h1
    · have h1 := try_zero x t G Ob Bb Tb Yb N0 0 i R ((srcs x t).length - i) cap left q v vb W h hq hC hO hrow hb
      rw [tryF_zero _ _ _ _ h]
      exact h1
  | c + 1 => fun i R cap left q v vb W hi hcap hR hq hC hO hrow hb => by
    cases h : noneB left
    · exact try52_step x t G Ob Bb Tb Yb N0 c hn6 (try52 x t G Ob Bb Tb Yb N0 hn6 c) i R cap left q v vb W h hi hcap hR hq hC hO hrow hb
    · have h1 := try_zero x t G Ob Bb Tb Yb N0 (c + 1) i R ((srcs x t).length - i) cap left q v vb W h hq hC hO hrow hb
      rw [tryF_zero _ _ _ _ h]
      exact h1
end Go.Proofs.Ytijgfdncocjncaa
