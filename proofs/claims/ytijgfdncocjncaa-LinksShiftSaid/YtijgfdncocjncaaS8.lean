/- The sources, collected. -/
import Derived.Test.YtijgfdncocjncaaS7
import Derived.RangeFuncBox
namespace Go.Proofs.Ytijgfdncocjncaa
set_option linter.unusedVariables false
set_option linter.unusedSimpArgs false
open Go Go.RowKit Go.Shelf

attribute [local go_sem] Oper.semAt_some

theorem cells_new (W : World) (vs : List Value) (t : TypeId) : ∀ j u, vs[j]? = some u → (W.alloc (.cells vs.toArray t)).cell? ((⟨W.heap.size, 0, none⟩ : Addr).add j) = some u := by
  intro j u h
  have : ((⟨W.heap.size, 0, none⟩ : Addr).add j) = ⟨W.heap.size, j, none⟩ := by unfold Addr.add; split <;> simp_all
  rw [this, World.cell?_alloc_at _ _ _ _ _]
  · simpa using h
  · rfl
theorem row_mono {w : World} {base base' : Nat} {e : TypeId} {size : Nat} {v : Value} {n : Nat} {xs : List Value} (h : w.ownsRow base e size v n xs) (hb : base' ≤ base) : w.ownsRow base' e size v n xs :=
  ⟨h.1, h.2.imp id (fun ⟨g, cap, cur, h1, h2, h3⟩ => ⟨g, cap, cur, h1, by omega, h3⟩)⟩
theorem ownFrom_frm {β : Type} {H B Bl : Nat} {w : World} (hH : H ≤ w.heap.size) (hB : H ≤ B) : OwnFrom B (fun (_ : β) W => Frm H (· = Bl) w W) :=
  fun _ _ _ _ hs hg hr => hs.grown hg (Nat.le_trans hH hs.size) (fun k e => .inl (Nat.le_trans hB (hr k e).1))
theorem info83 : (Try.prog.info? 83).map (fun i => (i.zero, i.size, i.bytes)) = some (some (.agg #[I 0, U64 0]), 2, 16) := by kernel_rfl
def flatS (x : Wat) (t : Nat) (pre : List (Fin (srcs x t).length)) : List Value := pre.flatMap fun y : Fin (srcs x t).length => [I ((srcs x t)[y] : Nat), U64 (setN (expP x (srcs x t)[y] t))]
theorem flatS_snoc (x : Wat) (t : Nat) (pre : List (Fin (srcs x t).length)) (y : Fin (srcs x t).length) : flatS x t (pre ++ [y]) = flatS x t pre ++ [I ((srcs x t)[y] : Nat), U64 (setN (expP x (srcs x t)[y] t))] := by simp [flatS]
set_option maxRecDepth 100000 in
set_option maxHeartbeats 8000000 in
theorem append59 (x : Wat) (P t : Nat) (A B : Option Addr) (c d : Nat) (D : Option Addr) (cs : Nat) (w0 w : World) (hx : WatOk x) (hR : Run w0 P x A B c d D cs) (ht : t < x.hb.length) (hB0 : Below w0.heap.size w0 w) (N Bp Bt : Nat) (hS : SrcAt w N Bp Bt P t) :
    Calls Try.prog 59 #[.slice none 0 0, .func (.func 57) #[] #[.pointer (some ⟨Bp, 0, none⟩), .pointer (some ⟨Bt, 0, none⟩)]] w fun e w' =>
      ∃ v, e = .returned v ∧ w'.ownsRow w.heap.size 83 2 v (srcs x t).length (flatS x t (List.finRange (srcs x t).length)) ∧ Below w.heap.size w w' := by
  have HX := Lib.hid hx
  have HRR := Lib.hid hR
  obtain ⟨hbp, hbt, c0, c1⟩ := hS
  obtain ⟨i0, hi, hi1, hi2, hi3⟩ := info_parts info83
  have hsl := srcs_len x t
  have hn6 : x.n ≤ 6 := hx.n6
  have hz0 := hB0.size
  clear hR hx
  refine calls_marks Try.func59 rfl ?_
  simp only [Try.ntmps59, List.size_toArray, List.length_cons, List.length_nil, Nat.reduceAdd, Nat.reduceSub, Array.replicate_succ, Array.replicate_zero, List.push_toArray, List.append_toArray, List.nil_append, List.cons_append]
  go_wp2
  obtain ⟨w1, hw1⟩ : ∃ w1, w1 = w.alloc (.cells #[.slice none 0 0] 97) := ⟨_, rfl⟩
  rw [show World.alloc w _ = w1 from hw1.symm]
  have hs1 : w1.heap.size = w.heap.size + 1 := by rw [hw1]; simp
  have hB1 : Below w.heap.size w w1 := by rw [hw1]; (repeat' (first | assumption | exact Below.refl _ _ | refine Below.drew ?_ | refine below_drewN ?_ _ | refine Below.setCell ?_ (by first | omega | (simp; done) | (simp; omega)) _ | refine Below.alloc ?_ (by first | omega | (simp; done) | (simp; omega)) _ | refine Below.trans ?_ (Below.mono (by assumption) (by first | omega | (simp; done) | (simp; omega)))))
  have hx1 : Boxed w1 w.heap.size 97 (.slice none 0 0) := by rw [hw1]; exact Boxed.new w 97 _
  clear hw1
  have c0' := (hB1.cell (p := ⟨Bp, 0, none⟩) hbp.2).trans c0
  have c1' := (hB1.cell (p := ⟨Bt, 0, none⟩) hbt.2).trans c1
  refine (wpIn_wide (n := 9)).1 ?_
  refine wpIn_rangeFunc_ownH (F := Fence.wide) (n := 9) rfl (by decide) (gf := 57) (lb := #[.pointer (some ⟨Bp, 0, none⟩), .pointer (some ⟨Bt, 0, none⟩)]) rfl trivial (enters_of Try.func57 (by kernel_rfl) rfl)
    (srcs_t HX.out HRR.out ht 8 (by decide) Bp Bt w1.heap.size (· = w.heap.size) ⟨by omega, fun k e => by omega⟩ ⟨by omega, by omega⟩ ⟨by omega, by omega⟩ w1 (Nat.le_refl _) (hB0.trans (hB1.mono hz0)) c0' c1') frmK_t (frmK_b (Nat.le_refl _)) (Below.refl _ _) (fun _ => rfl)
    (fun pre W => (∃ v, Boxed W w.heap.size 97 v ∧ W.ownsRow w1.heap.size 83 2 v pre.length (flatS x t pre) ∧ True) ∧ Frm w1.heap.size (· = w.heap.size) w1 W)
    (fun _ _ _ => False)
    (OwnFrom.and (Own.from (holdsRow_own w1.heap.size w.heap.size 97 83 2 (fun pre => pre.length) (fun pre => flatS x t pre) (fun _ _ => True)) _) (ownFrom_frm (Nat.le_refl _) (Nat.le_refl _)))
    (fun _ _ _ _ _ hs _ _ => hs)
    ⟨⟨_, hx1, World.ownsRow_nil _ _ _ _, trivial⟩, Frm.refl _ _ _⟩
    (fun y a' W => ∃ Ba : Nat, w1.heap.size ≤ Ba ∧ Box W Ba [I ((srcs x t)[y] : Nat), U64 (setN (expP x (srcs x t)[y] t))] ∧ a' = { tmps := #[.slice none 0 0, .func (.func 57) #[] #[.pointer (some ⟨Bp, 0, none⟩), .pointer (some ⟨Bt, 0, none⟩)], .pointer (some ⟨w.heap.size, 0, none⟩), undef, .slice none 0 0, .pointer (some ⟨Ba, 0, none⟩), .func (.func 57) #[] #[.pointer (some ⟨Bp, 0, none⟩), .pointer (some ⟨Bt, 0, none⟩)], encS x t y, undef, undef, undef, undef, undef], defers := [] })
    (fun y a' _ X Y row hs hg hr => by
      obtain ⟨Ba, h1, h2, h3⟩ := hs
      exact ⟨Ba, h1, box_own h2 hg (fun r e => (hr r e).2), h3⟩)
    ?assign ?body ?done ?stop
  case stop =>
    rintro D c pre W _ _ h _
    exact h.elim
  case assign =>
    rintro lp pre y W K ⟨⟨v, hv, hrow, _⟩, hF⟩ hK
    unfold encS at hK ⊢
    obtain ⟨r0, hr0⟩ : ∃ r0, (srcs x t)[y] = r0 := ⟨_, rfl⟩
    rw [hr0] at hK ⊢
    generalize setN (expP x r0 t) = r1 at *
    gi_wp2
    exact hK _ _ ((KeepsOthers.alloc _ _).from _) ((Frm.refl _ _ W).alloc hF.size _) ⟨⟨v, hv.alloc _, hrow.alloc _, trivial⟩, hF.alloc hF.size _⟩ ⟨W.heap.size, hF.size, Box.new W _ 83, rfl⟩
  case body =>
    rintro lp pre y a' W hl ⟨r, hr⟩ ⟨⟨v, hv, hrow, _⟩, hF⟩ ⟨Ba, hBa, bA, rfl⟩ hlt
    have HFS := Lib.hid (flatS_snoc x t pre y)
    have hc := hv.cell
    have hsW := hF.size
    unfold encS
    generalize setN (expP x (srcs x t)[y] t) = q at *
    generalize (srcs x t)[y] = f at *
    obtain ⟨n0, _⟩ := bA.at_ 0 _ rfl
    obtain ⟨n1, _⟩ := bA.at_ 1 _ rfl
    gi_wp2_with (gi_at_builtin; refine wpListIn_append_own _ rfl _ _ 97 rfl w1.heap.size 83 i0 (.agg #[I 0, U64 0]) 2 16 Try.underlying97 hi hi1 hi2 hi3 rfl (by decide) _ _ _ rfl (hrow.alloc _) ⟨W.heap.size, 0, none⟩ 1 1 [I f, U64 q] rfl rfl (cells_new W [I f, U64 q] 83) (by simp [Value.oneCell']) (by simp [maxLen]; omega) (by omega) (by simp; omega) ?_; intro v' w2 hown' hgrow _; obtain ⟨g', cap', rfl⟩ := ownsRow_succ hown'; obtain ⟨hv1, hv2, hr2, hk2, hb2⟩ := hv.appended (n₀ := w.heap.size) (by decide) (row_mono hrow (by omega)) (by omega) (Nat.le_refl _) (row_mono hown' (by omega)) hgrow; have hc1 := hv1.cell; have hf1 := hv1.frozen)
    have hG : ∀ {a : World}, Frm w1.heap.size (· = w.heap.size) a W → Frm w1.heap.size (· = w.heap.size) a (w2.setCell ⟨w.heap.size, 0, none⟩ (.slice (some ⟨g', 0, none⟩) (pre.length + 1) cap')) := fun h =>
      ((h.alloc hsW _).grown hgrow (by simp; omega) (fun j ej => .inl (hrow.lt j ej).1)).setCell (Or.inr rfl) _
    exact ⟨hk2.from _, hG (Frm.refl _ _ _), ⟨_, hv2, by
      rw [HFS.out, List.length_append]
      exact hown'.kept (grownBy_setCell' w2 w.heap.size _) (.inr (hv1.not_row (by decide) hown').symm), trivial⟩, hG hF⟩
  case done =>
    rintro D ys W hD rfl ⟨⟨v, hv, hrow, _⟩, hF⟩ hK
    have hc := hv.cell
    have hsW := hF.size
    rw [List.length_finRange] at hrow
    obtain ⟨xs, hxs⟩ : ∃ xs, flatS x t (List.finRange (srcs x t).length) = xs := ⟨_, rfl⟩
    rw [hxs] at hrow
    go_wp2
    refine ⟨by simp, .inl ⟨_, _, rfl, run_takeDeferred hK, ?_⟩⟩
    have hBB : Below w.heap.size w (W.putObj D (.deferred none)) := (hB1.trans (hF.below (by omega) (fun k hk e => by omega))).grown (grownBy_putObj' W D (.deferred none)) (by omega) (fun k e => by injection e with e; omega)
    exact ⟨v, by simp [results, Try.results59, go_sem], ⟨v, rfl, by rw [hxs]; exact row_mono (ownsRow_putObj hrow _ hK rfl) (by omega), hBB⟩⟩
theorem collect51 (x : Wat) (P t : Nat) (A B : Option Addr) (c d : Nat) (D : Option Addr) (cs : Nat) (w0 w : World) (hx : WatOk x) (hR : Run w0 P x A B c d D cs) (ht : t < x.hb.length) (hB0 : Below w0.heap.size w0 w) (N Bp Bt : Nat) (hS : SrcAt w N Bp Bt P t) :
    Calls Try.prog 51 #[.func (.func 57) #[] #[.pointer (some ⟨Bp, 0, none⟩), .pointer (some ⟨Bt, 0, none⟩)]] w fun e w' =>
      ∃ v, e = .returned v ∧ w'.ownsRow w.heap.size 83 2 v (srcs x t).length (flatS x t (List.finRange (srcs x t).length)) ∧ Below w.heap.size w w' := by
  have H59 := Lib.hid (append59 x P t A B c d D cs w0 w hx hR ht hB0 N Bp Bt hS)
  clear hx hR hB0 hS
  go_enter Try.func51, Try.ntmps51
  go_wp2_with (first | (go_at_call 59; refine (H59.out).mono ?_; rintro e w1 ⟨v, rfl, h1, h2⟩) | fail)
  exact bodyPost_ret (v := v) (by simp [results, Try.results51, go_sem]) rfl ⟨v, rfl, h1, h2⟩
end Go.Proofs.Ytijgfdncocjncaa
