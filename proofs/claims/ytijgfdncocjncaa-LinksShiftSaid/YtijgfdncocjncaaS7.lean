/- The springs from which a link holds, and what is lacking at a spring. -/
import Derived.Test.YtijgfdncocjncaaS6
namespace Go.Proofs.Ytijgfdncocjncaa
set_option linter.unusedVariables false
set_option linter.unusedSimpArgs false
open Go Go.RowKit Go.Shelf

attribute [local go_sem] Oper.semAt_some

theorem grown_of_below {W W' : World} (h : Below W.heap.size W W') : W.grownBy W' none := ⟨h.os, h.tape, h.output, h.size, fun k hk _ => h.block k hk⟩
theorem srcs_t {x : Wat} {P t : Nat} {A B : Option Addr} {c d : Nat} {D : Option Addr} {cs : Nat} {w0 : World} (hx : WatOk x) (hR : Run w0 P x A B c d D cs) (ht : t < x.hb.length) (n : Nat) (hn : 1 ≤ n)
    (Bp Bt n₀ : Nat) (S0 : Nat → Prop) (z0 : w0.heap.size ≤ n₀ ∧ ∀ k, S0 k → w0.heap.size ≤ k) (z1 : Bp < n₀ ∧ ¬ S0 Bp) (z2 : Bt < n₀ ∧ ¬ S0 Bt) (w : World) (hz : n₀ ≤ w.heap.size) (hB0 : Below w0.heap.size w0 w)
    (c0 : w.cell? ⟨Bp, 0, none⟩ = some (.pointer (some ⟨P, 0, none⟩))) (c1 : w.cell? ⟨Bt, 0, none⟩ = some (I t)) :
    SeqStopsK Fence.wide n Try.prog 57 #[.pointer (some ⟨Bp, 0, none⟩), .pointer (some ⟨Bt, 0, none⟩)] (fun y : Fin (srcs x t).length => #[encS x t y]) (Frm n₀ S0) (fun ys => ys = List.finRange (srcs x t).length) (fun _ => True) (srcs x t).length w := fun lp J Jx W hW hJ _ hY h0 =>
  sources57_in Fence.wide n trivial (fun _ _ _ h => callsIn_wide.2 h) trivial rfl hn x P t A B c d D cs w0 hx hR ht lp Bp Bt n₀ S0 z0 z1 z2 J Jx hY (fun pre W1 W2 h hj => hJ pre W1 W2 none hj (grown_of_below h) (fun r e => by cases e)) W (by have := hW.size; omega)
    (hB0.trans (hW.mono hB0.size)) ((hW.cell (p := ⟨Bp, 0, none⟩) (show Bp < _ by omega)).trans c0) ((hW.cell (p := ⟨Bt, 0, none⟩) (show Bt < _ by omega)).trans c1) h0
/-- What 'sources' hands back: an iterator over its own copies. -/
structure SrcAt (W : World) (N Bp Bt P t : Nat) : Prop where
  bp : N ≤ Bp ∧ Bp < W.heap.size
  bt : N ≤ Bt ∧ Bt < W.heap.size
  c0 : W.cell? ⟨Bp, 0, none⟩ = some (.pointer (some ⟨P, 0, none⟩))
  c1 : W.cell? ⟨Bt, 0, none⟩ = some (I t)
set_option maxRecDepth 100000 in
theorem sources41 (P t : Nat) (w : World) : Calls Try.prog 41 #[.pointer (some ⟨P, 0, none⟩), I t] w fun e w' => ∃ Bp Bt, e = .returned (.func (.func 57) #[] #[.pointer (some ⟨Bp, 0, none⟩), .pointer (some ⟨Bt, 0, none⟩)]) ∧ SrcAt w' w.heap.size Bp Bt P t ∧ Below w.heap.size w w' := by
  go_enter Try.func41, Try.ntmps41
  go_wp2
  go_ret
  exact ⟨_, _, rfl, ⟨⟨Nat.le_refl _, by simp; omega⟩, ⟨by simp, by simp⟩, by simp [go_sem], by simp [go_sem]⟩, by (repeat' (first | assumption | exact Below.refl _ _ | refine Below.drew ?_ | refine below_drewN ?_ _ | refine Below.setCell ?_ (by first | omega | (simp; done) | (simp; omega)) _ | refine Below.alloc ?_ (by first | omega | (simp; done) | (simp; omega)) _ | refine Below.trans ?_ (Below.mono (by assumption) (by first | omega | (simp; done) | (simp; omega)))))⟩
theorem frmK_t {n₀ : Nat} {S0 : Nat → Prop} {A B C : World} (h : Frm n₀ S0 A B) (k : Frm n₀ S0 B C) : Frm n₀ S0 A C := h.trans k
theorem frmK_b {n₀ : Nat} {S0 : Nat → Prop} {w : World} (hn : n₀ ≤ w.heap.size) (W : World) (l : Nat) (o o' : Obj) (hl : w.heap.size ≤ l) (h : W.heap[l]? = some o) (_ : o.isCells = false) (_ : o.isWalk = false) : Frm n₀ S0 W (W.putObj l o') :=
  (Frm.refl _ _ W).grown (grownBy_putObj' W l o') (by have := (Array.getElem?_eq_some_iff.1 h).1; omega) (fun k e => by cases e; exact .inl (by omega))
theorem calls_marks {P : Program} {f : FuncId} {fn : Func} {c : Code} {args : Array Value} {w : World} {R : Ending → World → Prop} (hf : P.funcs[f]? = some fn) (hb : fn.body = some c)
    (h : c.wp P (bodyPostM Fence.wide 9 P fn R) { tmps := args ++ Array.replicate (fn.ntmps - args.size) undef, defers := [] } w) : Calls P f args w R :=
  callsIn_wide.1 (callsIn_of_wp_marks (F := Fence.wide) (n := 9) hf hb trivial (wpIn_wide.2 h) rfl)
theorem cells_of_cell {W : World} {b r : Nat} {o : Obj} {v : Value} (h : W.cell? ⟨b, 0, none⟩ = some v) (ho : W.heap[r]? = some o) (hc : o.isCells = false) : r ≠ b := fun e => by
  subst e
  cases o <;> simp_all [World.cell?, Obj.isCells]
theorem box_own {W W' : World} {b : Nat} {v : Value} {vs : List Value} {row : Option Nat} (h : Box W b (v :: vs)) (hg : W.grownBy W' row) (hr : ∀ r, row = some r → ∃ o : Obj, W.heap[r]? = some o ∧ o.isCells = false) : Box W' b (v :: vs) :=
  h.grown hg (fun e => by
    obtain ⟨o, h1, h2⟩ := hr _ e
    exact cells_of_cell (h.at_ 0 v rfl).1 h1 h2 rfl)
theorem andNotU (a b : Nat) (ha : a < 18446744073709551616) (hb : b < 18446744073709551616) : Go.bits BinOp.andNot IntKind.u64 (a : Int) (b : Int) = ((a &&& (18446744073709551615 - b) : Nat) : Int) := u64_andNot_nat a b ha hb
/-- What is left behind some sources. -/
def lackQ (x : Wat) (t : Nat) (pre : List (Fin (srcs x t).length)) (i : Nat) : Bool := needP x t i && !pre.any fun y => expP x (srcs x t)[y] t i
theorem lackQ_nil (x : Wat) (t : Nat) : setN (needP x t) = setN (lackQ x t []) := setN_congr fun i _ => by simp [lackQ]
theorem lackQ_snoc (x : Wat) (t : Nat) (pre : List (Fin (srcs x t).length)) (y : Fin (srcs x t).length) : setN (lackQ x t (pre ++ [y])) = setN (lackQ x t pre) &&& (18446744073709551615 - setN (expP x (srcs x t)[y] t)) := by
  rw [setN_not]
  refine setN_congr fun i _ => ?_
  unfold lackQ
  rw [List.any_append]
  simp only [List.any_cons, List.any_nil, Bool.or_false]
  cases needP x t i <;> cases (pre.any fun y => expP x (srcs x t)[y] t i) <;> rfl
theorem any_fin {α : Type} (l : List α) (p : α → Bool) : ((List.finRange l.length).any fun y => p l[y]) = l.any p := by
  have e : l = (List.finRange l.length).map fun y => l[y] := by
    apply List.ext_getElem
    · simp
    · intro i h1 h2; simp
  conv => rhs; rw [e]
  rw [List.any_map]
  rfl
theorem lackQ_all (x : Wat) (t : Nat) : setN (lackQ x t (List.finRange (srcs x t).length)) = setN (lackP x t) := setN_congr fun i _ => by
  unfold lackQ lackP
  rw [any_fin (srcs x t) fun f => expP x f t i]
set_option maxRecDepth 100000 in
set_option maxHeartbeats 8000000 in
theorem lacking33 (x : Wat) (P t : Nat) (A B : Option Addr) (c d : Nat) (D : Option Addr) (cs : Nat) (w : World) (hx : WatOk x) (hR : Run w P x A B c d D cs) (ht : t < x.hb.length) :
    Calls Try.prog 33 #[.pointer (some ⟨P, 0, none⟩), I t] w fun e w' => e = .returned (U64 (setN (lackP x t))) ∧ Below w.heap.size w w' := by
  have HX := Lib.hid hx
  have HRR := Lib.hid hR
  have hPz := hR.lt
  have H42 := Lib.hid (needs42 x P t A B c d D cs w hx hR ht)
  clear hR hx
  refine calls_marks Try.func33 rfl ?_
  simp only [Try.ntmps33, List.size_toArray, List.length_cons, List.length_nil, Nat.reduceAdd, Nat.reduceSub, Array.replicate_succ, Array.replicate_zero, List.push_toArray, List.append_toArray, List.nil_append, List.cons_append]
  have HL0 : Hid (setN (needP x t) = setN (lackQ x t [])) := Lib.hid (lackQ_nil x t)
  generalize setN (needP x t) = nd at *
  go_wp2_with (first
    | (go_at_call 42; refine (H42.out).mono ?_; rintro e w1 ⟨rfl, hB1⟩)
    | (go_at_call 41; refine (sources41 P t _).mono ?_; rintro e w3 ⟨Bp, Bt, rfl, hsr, hB3⟩)
    | fail)
  obtain ⟨hbp, hbt, hc0, hc1⟩ := hsr
  have hz1 := hB1.size
  have hz3 := hB3.size
  simp only [World.size_alloc] at hz3 hbp hbt
  have H5 : Hid (Box (w1.alloc (.cells #[U64 nd] 61)) w1.heap.size [U64 nd]) := Lib.hid (Box.new w1 [U64 nd] 61)
  have H5w := Lib.hid (H5.out.call hB3)
  have hb3 : Below w.heap.size w w3 := (hB1.alloc hz1 _).trans (hB3.mono (by simp; omega))
  have HGA := Lib.hid (lackQ_all x t)
  have hnd : nd < 18446744073709551616 := by rw [HL0.out]; exact setN_lt _
  clear H5 H42 hB3 hB1
  refine (wpIn_wide (n := 9)).1 ?_
  refine wpIn_rangeFunc_ownH (F := Fence.wide) (n := 9) rfl (by decide) (gf := 57) (lb := #[.pointer (some ⟨Bp, 0, none⟩), .pointer (some ⟨Bt, 0, none⟩)]) rfl trivial (enters_of Try.func57 (by kernel_rfl) rfl)
    (srcs_t HX.out HRR.out ht 8 (by decide) Bp Bt w3.heap.size (fun k => k = w1.heap.size) ⟨by omega, fun k e => by omega⟩ ⟨hbp.2, by omega⟩ ⟨hbt.2, by omega⟩ w3 (Nat.le_refl _) hb3 hc0 hc1) frmK_t (frmK_b (Nat.le_refl _)) (Below.refl _ _) (fun _ => rfl)
    (fun pre W => Box W w1.heap.size [U64 (setN (lackQ x t pre))] ∧ Below w.heap.size w W ∧ w3.heap.size ≤ W.heap.size)
    (fun _ _ _ => False)
    (fun pre X Y row hs hg hr => ⟨box_own hs.1 hg (fun r e => (hr r e).2), hs.2.1.grown hg hs.2.1.size (fun k e => by have := (hr k e).1; omega), Nat.le_trans hs.2.2 hg.size⟩)
    (fun _ _ _ _ _ hs _ _ => hs)
    ⟨by rw [← HL0.out]; exact H5w.out, hb3, Nat.le_refl _⟩
    (fun y a' W => ∃ Ba : Nat, w3.heap.size ≤ Ba ∧ Box W Ba [I (srcs x t)[y], U64 (setN (expP x (srcs x t)[y] t))] ∧ a' = { tmps := #[.pointer (some ⟨P, 0, none⟩), I t, undef, undef, .int .u64 0, .pointer (some ⟨w1.heap.size, 0, none⟩), .pointer (some ⟨Ba, 0, none⟩), .pointer (some ⟨P, 0, none⟩), I t, U64 nd, .pointer (some ⟨P, 0, none⟩), I t, .func (.func 57) #[] #[.pointer (some ⟨Bp, 0, none⟩), .pointer (some ⟨Bt, 0, none⟩)], encS x t y, undef, undef, undef, undef, undef], defers := [] })
    (fun y a' _ X Y row hs hg hr => by
      obtain ⟨Ba, h1, h2, h3⟩ := hs
      exact ⟨Ba, h1, box_own h2 hg (fun r e => (hr r e).2), h3⟩)
    ?assign ?body ?done ?stop
  case stop =>
    rintro D c pre W _ _ h _
    exact h.elim
  case assign =>
    rintro lp pre y W K ⟨k1, k2, k3⟩ hK
    unfold encS at hK ⊢
    obtain ⟨r0, hr0⟩ : ∃ r0, (srcs x t)[y] = r0 := ⟨_, rfl⟩
    rw [hr0] at hK ⊢
    generalize setN (expP x r0 t) = r1 at *
    gi_wp2
    exact hK _ _ ((KeepsOthers.alloc _ _).from _) ((Frm.refl _ _ W).alloc k3 _) ⟨k1.alloc _, k2.alloc k2.size _, by simp; omega⟩ ⟨W.heap.size, k3, Box.new W _ 83, rfl⟩
  case done =>
    rintro D xs W hD rfl ⟨k1, k2, k3⟩ hK
    rw [HGA.out] at k1
    obtain ⟨x5, _⟩ := k1.at_ 0 _ rfl
    have hzz := k2.size
    obtain ⟨lk, hlk⟩ : ∃ lk, setN (lackP x t) = lk := ⟨_, rfl⟩
    rw [hlk] at k1 x5
    go_wp2
    refine ⟨by simp, .inl ⟨_, _, rfl, run_takeDeferred hK, ?_⟩⟩
    have hgr := grownBy_putObj' W D (.deferred none)
    have hBB := k2.grown hgr hzz (fun k e => by injection e with e; omega)
    exact ⟨U64 lk, by simp [results, Try.results33, go_sem], by rw [hlk], hBB⟩
  case body =>
    rintro lp pre y a' W hl ⟨r, hr⟩ ⟨k1, k2, k3⟩ ⟨Ba, hBa, bA, rfl⟩ hlt
    have HGS := Lib.hid (lackQ_snoc x t pre y)
    have hs1 := setN_lt (lackQ x t pre)
    have hs2 := setN_lt (expP x (srcs x t)[y] t)
    unfold encS
    generalize setN (lackQ x t pre) = s at *
    generalize setN (expP x (srcs x t)[y] t) = q at *
    generalize (srcs x t)[y] = f at *
    have hanu := andNotU s q hs1 hs2
    have hs3 : s &&& (18446744073709551615 - q) < 18446744073709551616 := by rw [← HGS.out]; exact setN_lt _
    have hwu := wrapU _ hs3
    generalize s &&& (18446744073709551615 - q) = sq at *
    obtain ⟨n0, _⟩ := bA.at_ 0 _ rfl
    obtain ⟨n1, _⟩ := bA.at_ 1 _ rfl
    obtain ⟨x5, y5⟩ := k1.at_ 0 _ rfl
    have HX5 := Lib.hid (k1.set 0 (U64 sq))
    have HKF : Hid (KeepsFrom w3.heap.size W (W.setCell ⟨w1.heap.size, 0, none⟩ (U64 sq))) := Lib.hid ((KeepsOthers.setCell _ _ _).from _)
    have HFR : Hid (Frm w3.heap.size (fun k => k = w1.heap.size) W (W.setCell ⟨w1.heap.size, 0, none⟩ (U64 sq))) := Lib.hid (Frm.setCell (N := w3.heap.size) (S := fun k => k = w1.heap.size) (Frm.refl _ _ W) (p := ⟨w1.heap.size, 0, none⟩) (.inr rfl) _)
    have HBB : Hid (Below w.heap.size w (W.setCell ⟨w1.heap.size, 0, none⟩ (U64 sq))) := Lib.hid (k2.setCell (p := ⟨w1.heap.size, 0, none⟩) hz1 _)
    have hzf : w3.heap.size ≤ (W.setCell ⟨w1.heap.size, 0, none⟩ (U64 sq)).heap.size := by simp; omega
    gi_wp2
    exact ⟨HKF.out, HFR.out, by rw [HGS.out]; exact HX5.out, HBB.out, hzf⟩
end Go.Proofs.Ytijgfdncocjncaa
