/- Sets of readings: their lists. -/
import Derived.Test.YtgdilbilhajgaaaDoorE14
import Derived.Sort.Grow
namespace Go.Proofs.YtgdilbilhajgaaaDoor
set_option linter.unusedVariables false
set_option linter.unusedSimpArgs false
open Go Go.RowKit Go.Shelf

/-- New blocks have been laid, and answers drawn; nothing else. -/
def Lays (w w' : World) : Prop := Below w.heap.size w w' ∧ w.drawn ≤ w'.drawn
theorem Lays.grow {w w' : World} (h : Lays w w') : ∃ q os, w' = Sort.grow (w.drewN q) os := by
  obtain ⟨⟨h1, h2, h3, h4, h5⟩, h6⟩ := h
  refine ⟨w'.drawn - w.drawn, w'.heap.extract w.heap.size w'.heap.size, ?_⟩
  cases w with
  | mk heap tape drawn os output =>
    cases w' with
    | mk heap' tape' drawn' os' output' =>
      simp only at h1 h2 h3 h4 h5 h6
      subst h1 h2 h3
      unfold Sort.grow World.drewN
      simp only
      congr 1
      · refine Array.ext_getElem? fun k => ?_
        rw [Array.getElem?_append]
        split
        · rename_i hk
          exact h5 k hk
        · rename_i hk
          simp only [Array.getElem?_extract]
          split
          · congr 1; omega
          · rw [Array.getElem?_eq_none]; omega
      · omega
theorem Lays.trans {a b c : World} (h : Lays a b) (h' : Lays b c) : Lays a c := ⟨h.1.trans (h'.1.mono h.1.size), Nat.le_trans h.2 h'.2⟩

section
variable {P : Program} (w : World)
theorem run_append_ownD (base : Nat) (t ty e : TypeId) (i : TypeInfo) (z : Value) (size bytes : Nat) (ht : P.underlying t = some (.slice e)) (hi : P.info? e = some i) (hz : i.zero = some z)
    (hsize : i.size = size) (hby : i.bytes = bytes) (hzs : z.cells.size = size) (hsz : 0 < size)
    (v : Value) (n : Nat) (xs : List Value) (hown : w.ownsRow base e size v n xs)
    (a : Addr) (m c : Nat) (hm : 0 < m) (news : List Value) (hl : news.length = m * size) (hnews : ∀ j u, news[j]? = some u → w.cell? (a.add j) = some u) (h1 : ∀ u ∈ news, u.oneCell' = true)
    (h63 : n + m ≤ maxLen) (hbytes : (n + m) * bytes ≤ 140737488355328) (hbase : base ≤ w.heap.size) :
    ∃ v' w', (Builtin.append_ #[t, t] ty #[v, .slice (some a) m c]).run P w = .ok v' w' ∧ w'.ownsRow base e size v' (n + m) (xs ++ news) ∧ w.grownBy w' v.ownBlock ∧ w.drawn ≤ w'.drawn := by
  obtain ⟨v', w', hr, h2, h3, _⟩ := run_append_own (P := P) w base t ty e i z size bytes ht hi hz hsize hby hzs hsz v n xs hown a m c news hl hnews h1 h63 hbytes hbase
  refine ⟨v', w', hr, h2, h3, ?_⟩
  subst hsize
  subst hby
  have hsmall : n + m ≤ 9223372036854775807 := by simp only [maxLen] at h63; omega
  rcases hown.2 with ⟨rfl, rfl⟩ | ⟨g, cap, cur, rfl, hbg, hg, hnc, hcm, hcs, htake⟩
  · have hr2 := run_append_nil (P := P) w t ty e i z ht hi hz a m c news hl hnews hm (by omega) (by have hb := hbytes; simp only [Nat.zero_add] at hb; omega)
    rw [hr] at hr2
    injection hr2 with _ e2
    rw [e2]
    exact Nat.le_succ _
  · by_cases hroom : n + m ≤ cap
    · have hfit : n * i.size + news.length ≤ cur.size := by rw [hl, hcs, ← Nat.add_mul]; exact Nat.mul_le_mul_right _ hroom
      have hr2 := run_append_room (P := P) w t ty e i ht hi g n cap cur hg a m c news hl hnews h1 hroom hfit
      rw [hr] at hr2
      injection hr2 with _ e2
      rw [e2]
      exact Nat.le_refl _
    · have hr2 := run_append_grow (P := P) w t ty e i z ht hi hz ⟨g, 0, none⟩ n cap xs hown.1 (hown.cells (g := g) rfl) a m c news hl hnews (by omega) (by omega) (growslice_fits (by omega) hbytes)
      rw [hr] at hr2
      injection hr2 with _ e2
      rw [e2]
      exact Nat.le_succ _
theorem wpList_append_ownD {ops : Array Oper} {rest : List Oper} {o : Oper} {act : Act} {Q : Exit → Act → World → Prop} (hgd : o.guard = none) (s x : Operand) (t : TypeId)
    (ho : o.op = .call { callee := .builtin .append, args := #[s, x], argTypes := #[t, t] })
    (base : Nat) (e : TypeId) (i : TypeInfo) (z : Value) (size bytes : Nat) (ht : P.underlying t = some (.slice e)) (hi : P.info? e = some i) (hz : i.zero = some z)
    (hsize : i.size = size) (hby : i.bytes = bytes) (hzs : z.cells.size = size) (hsz : 0 < size)
    (v : Value) (n : Nat) (xs : List Value) (hs : act.eval s = v) (hown : w.ownsRow base e size v n xs)
    (a : Addr) (m c : Nat) (hm : 0 < m) (news : List Value) (hx : act.eval x = .slice (some a) m c) (hl : news.length = m * size) (hnews : ∀ j u, news[j]? = some u → w.cell? (a.add j) = some u) (h1 : ∀ u ∈ news, u.oneCell' = true)
    (h63 : n + m ≤ maxLen) (hbytes : (n + m) * bytes ≤ 140737488355328) (hbase : base ≤ w.heap.size)
    (h : ∀ v' w', w'.ownsRow base e size v' (n + m) (xs ++ news) → w.grownBy w' v.ownBlock → w.drawn ≤ w'.drawn → wpList P ops Q rest (act.put o.dst v') w') : wpList P ops Q (o :: rest) act w :=
  wpList_plain hgd fun _ hK => by
    obtain ⟨v', w', hr, h2, h3, h4⟩ := run_append_ownD (P := P) w base t o.type e i z size bytes ht hi hz hsize hby hzs hsz v n xs hown a m c hm news hl hnews h1 h63 hbytes hbase
    unfold Oper.wp execOp
    simp only [ho, resolve, invoke, builtin, Sem.run_bind, Sem.run_pure, Result.andThen_ok, List.map_toArray, List.map_cons, List.map_nil, hs, hx, hr]
    exact hK _ _ (h v' w' h2 h3 h4)
end

/-- The readings of a set, rising. -/
def bitsL (s : Nat) : List Nat := (List.range 12).filter fun i => s.testBit i
theorem bits_step0 : ∀ a : Fin 64, ∀ b : Fin 64, a.1 * 64 + b.1 ≠ 0 → bitsL (a.1 * 64 + b.1) = Lib.ctz 64 (a.1 * 64 + b.1) :: bitsL ((a.1 * 64 + b.1) &&& ((a.1 * 64 + b.1) - 1)) ∧ ((a.1 * 64 + b.1) &&& ((a.1 * 64 + b.1) - 1)) < a.1 * 64 + b.1 := by decide +kernel
theorem bits_step {s : Nat} (hs : s < 4096) (h : s ≠ 0) : bitsL s = Lib.ctz 64 s :: bitsL (s &&& (s - 1)) ∧ (s &&& (s - 1)) < s := by
  have := bits_step0 ⟨s / 64, by omega⟩ ⟨s % 64, by omega⟩
  simp only [show s / 64 * 64 + s % 64 = s by omega] at this
  exact this h
theorem and_step0 : ∀ a : Fin 64, ∀ b : Fin 64, a.1 * 64 + b.1 ≠ 0 → Go.bits BinOp.and IntKind.u64 ((a.1 * 64 + b.1 : Nat) : Int) (((a.1 * 64 + b.1 : Nat) : Int) - 1) = (((a.1 * 64 + b.1) &&& (a.1 * 64 + b.1 - 1) : Nat) : Int) := by decide +kernel
theorem and_step {s : Nat} (hs : s < 4096) (h : s ≠ 0) : Go.bits BinOp.and IntKind.u64 (s : Int) ((s : Int) - 1) = ((s &&& (s - 1) : Nat) : Int) := by
  have := and_step0 ⟨s / 64, by omega⟩ ⟨s % 64, by omega⟩
  simp only [show s / 64 * 64 + s % 64 = s by omega] at this
  exact this h
theorem bitsL_zero : bitsL 0 = [] := by decide
theorem bitsL_len (s : Nat) : (bitsL s).length ≤ 12 := by
  have := List.length_filter_le (fun i => s.testBit i) (List.range 12)
  simpa [bitsL] using this
/-- The table of the library, as it is laid. -/
def TabOk (w : World) : Prop := TabAt (Proofs.Tryd.ctzL_ren.g 1) Lib.deBruijn64tab w ∧ Proofs.Tryd.ctzL_ren.g 1 < w.heap.size
theorem TabOk.below {w w' : World} (h : TabOk w) (hB : Below w.heap.size w w') : TabOk w' := ⟨fun j hj => (hB.cell (p := ⟨_, _, none⟩) h.2).trans (h.1 j hj), Nat.lt_of_lt_of_le h.2 hB.size⟩

set_option maxRecDepth 100000 in
set_option maxHeartbeats 2000000 in
theorem list39 (s : Nat) (hs : s < 4096) (w : World) (hT : TabOk w) :
    Calls Tryd.prog 39 #[.int .u64 s] w fun e w' => ∃ v, e = .returned v ∧ w'.ownsRow w.heap.size 3 1 v (bitsL s).length ((bitsL s).map fun k : Nat => I (k : Int)) ∧ Lays w w' := by
  obtain ⟨j0, hj0, hj1, hj2, hj3⟩ := info_parts info3
  have hu2 : Tryd.prog.underlying 26 = some (.slice 3) := Tryd.underlying26
  have HU := Lib.hid hu2; have HJ0 := Lib.hid hj0; have HJ1 := Lib.hid hj1; have HJ2 := Lib.hid hj2; have HJ3 := Lib.hid hj3
  clear hu2 hj0 hj1 hj2 hj3
  have HT := Lib.hid hT
  clear hT
  go_enter Tryd.func39, Tryd.ntmps39
  go_wp2
  go_loopw [0, 3] (fun s0 s3 wr => ∃ (r : Nat) (pre : List Nat), s0 = .int .u64 r ∧ r < 4096 ∧ Hid (bitsL s = pre ++ bitsL r) ∧ Hid (Lays w wr) ∧ Hid (wr.ownsRow w.heap.size 3 1 s3 pre.length (pre.map fun k : Nat => I (k : Int)))) (fun s0 _ _ => (intOf s0).toNat)
  case atStart => exact ⟨s, [], rfl, hs, Lib.hid rfl, Lib.hid ⟨Below.refl _ _, Nat.le_refl _⟩, Lib.hid ⟨by simp, .inl ⟨rfl, rfl⟩⟩⟩
  case round =>
    obtain ⟨r, pre, rfl, hr, HP, HL, HO⟩ := hrel
    have hz := HL.out.1.size
    have hpl : pre.length ≤ 12 := by have := bitsL_len s; rw [HP.out] at this; simp at this; omega
    by_cases hr0 : r = 0
    · have HR0 := Lib.hid hr0
      have hb : decide (0 < r) = false := by simp; omega
      have hb2 : decide ((0 : Int) < (r : Int)) = false := by simp; omega
      clear hr0
      go_wp2
      go_ret
      refine ⟨_, rfl, ?_, HL.out⟩
      have := HP.out
      rw [HR0.out, bitsL_zero, List.append_nil] at this
      rw [this]
      exact HO.out
    · obtain ⟨h1, h2⟩ := bits_step hr hr0
      have HB := Lib.hid h1
      have HAN := Lib.hid (and_step hr hr0)
      have HCT := Lib.hid (ctz58 r (by omega) wr (fun _ => (HT.out.below HL.out.1).1))
      have hb : decide (0 < r) = true := by simp; omega
      have hb2 : decide ((0 : Int) < (r : Int)) = true := by simp; omega
      have hr1 : (1 : Int) ≤ (r : Int) := by omega
      generalize Lib.ctz 64 r = ct at *
      clear h1
      go_wp2_with (first
        | (go_at_call 58; refine HCT.out.mono ?_; rintro e w1 ⟨rfl, rfl⟩)
        | (at_builtin; refine wpList_append_ownD _ rfl _ _ 26 rfl w.heap.size 3 j0 (I 0) 1 8 HU.out HJ0.out HJ1.out HJ2.out HJ3.out rfl (by decide) _ _ _ rfl (HO.out.alloc _) ⟨wr.heap.size, 0, none⟩ 1 1 (by decide) [I ct] rfl rfl (cell_one_new _ _ _) (by simp [Value.oneCell']) (by unfold maxLen; omega) (by omega) (by simp; omega) ?_; intro v' w2 hown' hgrow hdr; have HO1 := Lib.hid hown'; clear hown')
        | fail)
      have hL2 : Hid (Lays w w2) := Lib.hid ⟨(HL.out.1.alloc hz _).grown hgrow (by simp; omega) (fun g e => (HO.out.lt g e).1), Nat.le_trans HL.out.2 hdr⟩
      have hO2 : Hid (w2.ownsRow w.heap.size 3 1 v' (pre ++ [ct]).length ((pre ++ [ct]).map fun k : Nat => I (k : Int))) := Lib.hid (by rw [List.map_append, List.length_append]; exact HO1.out)
      clear hgrow hdr HO1
      go_roundw
      case rel => exact ⟨r &&& (r - 1), pre ++ [ct], by rw [HAN.out], by omega, Lib.hid (by rw [HP.out, HB.out]; simp), hL2, hO2⟩
      case measure => simp [intOf, HAN.out]; omega
end Go.Proofs.YtgdilbilhajgaaaDoor
