/- The document's See: what lies in memory while it goes on. -/
import Derived.Test.YtomfnldlnoiloaaDoorT3
namespace Go.Proofs.YtomfnldlnoiloaaDoor
set_option linter.unusedVariables false
set_option linter.unusedSimpArgs false
open Go Go.RowKit Go.Maps

theorem made_of (z : Value) (n : Nat) : madeCells #[z] (n * 1) = (List.replicate n z).toArray := by
  apply Array.ext
  · simp [madeCells]
  · intro i h1 h2
    simp [madeCells, Nat.mod_one]
theorem info22 : (Tryd.prog.info? 22).map (fun i => (i.zero, i.size, i.bytes)) = some (some (.slice none 0 0), 1, 24) := by kernel_rfl
/-- Cells of zeros, as one value. -/
def zI (n : Nat) : Array Value := (List.replicate n (I 0)).toArray
def z61 : Array Value := (List.replicate 61 (Value.slice none 0 0)).toArray
theorem make22z (n : Nat) (hn : n ≤ 1000000) (W : World) : (Instr.makeSlice 22 (I n) (I n)).run Tryd.prog W = .ok (.slice (some ⟨W.heap.size, 0, none⟩) n n) (W.alloc (.cells (zI n) 3)) := make22 n hn W
theorem make74 (W : World) : (Instr.makeSlice 74 (I 61) (I 61)).run Tryd.prog W = .ok (.slice (some ⟨W.heap.size, 0, none⟩) 61 61) (W.alloc (.cells z61 22)) := by
  obtain ⟨i, h1, h2, h3, h4⟩ := info_parts info22
  have h := run_make (P := Tryd.prog) W 74 22 i (.slice none 0 0) Tryd.underlying74 h1 h2 .i64 .i64 61 61 (by omega) (Int.le_refl _) (by rw [h4]; decide) (by omega)
  rw [h3] at h
  rw [h]
  show Result.ok _ (W.alloc (.cells (madeCells #[.slice none 0 0] (61 * 1)) 22)) = _
  rw [made_of]
  rfl
/-- The rows of who set out. -/
def outL (rows : Nat → Nat) (nr n : Nat) : List Value := (List.range 61).map fun j => if j < nr then .slice (some ⟨rows j, 0, none⟩) n n else .slice none 0 0
theorem outL_zero (rows : Nat → Nat) (n : Nat) : outL rows 0 n = List.replicate 61 (Value.slice none 0 0) := by
  unfold outL
  have e : (fun j => if j < 0 then Value.slice (some ⟨rows j, 0, none⟩) n n else .slice none 0 0) = fun _ => Value.slice none 0 0 := funext fun j => if_neg (Nat.not_lt_zero j)
  rw [e]
  exact List.map_const'.trans (by rw [List.length_range])
theorem outL_at (rows : Nat → Nat) {nr n j : Nat} (hj : j < nr) (h : nr ≤ 61) : (outL rows nr n)[j]? = some (.slice (some ⟨rows j, 0, none⟩) n n) := by
  unfold outL
  rw [List.getElem?_map, List.getElem?_range (by omega)]
  simp [hj]
theorem outL_set (rows : Nat → Nat) {nr n : Nat} (r : Nat) (h : nr < 61) : (outL rows nr n).set nr (.slice (some ⟨r, 0, none⟩) n n) = outL (fun j => if j = nr then r else rows j) (nr + 1) n := by
  unfold outL
  apply List.ext_getElem
  · simp
  · intro i h1 h2
    rw [List.getElem_set]
    simp only [List.getElem_map, List.getElem_range]
    by_cases e : nr = i
    · subst e; simp
    · rw [if_neg e]
      by_cases e2 : i < nr
      · rw [if_pos e2, if_pos (by omega), if_neg (fun h => e h.symm)]
      · rw [if_neg e2, if_neg (by omega)]
structure DocW (w wr : World) (v : Vis) (A1 A2 A3 : Option Addr) (q1 q2 q3 tb ob : Nat) (rows : Nat → Nat) (nr : Nat) (th : Nat → Int) (f : Nat → Nat → Int) : Prop where
  bl : Below w.heap.size w wr
  bx : Box wr w.heap.size [.slice A1 v.rm.length q1, .slice A2 v.tr.length q2, .slice A3 v.ar.length q3]
  thx : Box wr tb ((thL v.rm.length th).map I)
  obx : Box wr ob (outL rows nr v.tr.length)
  rw_ : ∀ j, j < nr → Box wr (rows j) ((thL v.tr.length (f j)).map I)
  lo : w.heap.size + 1 ≤ tb ∧ w.heap.size + 1 ≤ ob ∧ tb ≠ ob
  ne : ∀ j, j < nr → w.heap.size + 1 ≤ rows j ∧ rows j ≠ tb ∧ rows j ≠ ob ∧ ∀ j', j' < nr → j ≠ j' → rows j ≠ rows j'
section
variable {w wr W : World} {v : Vis} {A1 A2 A3 : Option Addr} {q1 q2 q3 tb ob : Nat} {rows : Nat → Nat} {nr : Nat} {th th' : Nat → Int} {f f' : Nat → Nat → Int}
theorem DocW.size (h : DocW w wr v A1 A2 A3 q1 q2 q3 tb ob rows nr th f) : w.heap.size + 1 ≤ wr.heap.size := by
  have := h.lo.1
  have := h.thx.1
  omega
theorem DocW.below (h : DocW w wr v A1 A2 A3 q1 q2 q3 tb ob rows nr th f) (hB : Below wr.heap.size wr W) : DocW w W v A1 A2 A3 q1 q2 q3 tb ob rows nr th f :=
  ⟨h.bl.trans (hB.mono h.bl.size), h.bx.call hB, h.thx.call hB, h.obx.call hB, fun j hj => (h.rw_ j hj).call hB, h.lo, h.ne⟩
theorem DocW.drew (h : DocW w wr v A1 A2 A3 q1 q2 q3 tb ob rows nr th f) : DocW w wr.drew v A1 A2 A3 q1 q2 q3 tb ob rows nr th f := h.below (Below.refl _ _).drew
theorem DocW.congr (h : DocW w wr v A1 A2 A3 q1 q2 q3 tb ob rows nr th f) (ht : ∀ q, q < v.rm.length → th q = th' q) (hf : ∀ j k, j < nr → k < v.tr.length → f j k = f' j k) : DocW w wr v A1 A2 A3 q1 q2 q3 tb ob rows nr th' f' :=
  ⟨h.bl, h.bx, by rw [← thL_congr ht]; exact h.thx, h.obx, fun j hj => by rw [← thL_congr (fun k hk => hf j k hj hk)]; exact h.rw_ j hj, h.lo, h.ne⟩
/-- A place's number is stored. -/
theorem DocW.setTh (h : DocW w wr v A1 A2 A3 q1 q2 q3 tb ob rows nr th f) (k : Nat) (x : Int) : DocW w (wr.setCell ⟨tb, k, none⟩ (I x)) v A1 A2 A3 q1 q2 q3 tb ob rows nr (fun q => if q = k then x else th q) f := by
  obtain ⟨h1, h2, h3⟩ := h.lo
  refine ⟨h.bl.setCell (p := ⟨tb, k, none⟩) (by dsimp only; omega) _, h.bx.far (p := ⟨tb, k, none⟩) (by dsimp only; omega) _, ?_, h.obx.far (p := ⟨tb, k, none⟩) h3 _, fun j hj => (h.rw_ j hj).far (p := ⟨tb, k, none⟩) (fun e => (h.ne j hj).2.1 e.symm) _, h.lo, h.ne⟩
  have := h.thx.set k (I x)
  rw [thL_set] at this
  exact this
/-- One who set out is stored. -/
theorem DocW.setRow (h : DocW w wr v A1 A2 A3 q1 q2 q3 tb ob rows nr th f) {j : Nat} (hj : j < nr) (k : Nat) (x : Int) : DocW w (wr.setCell ⟨rows j, k, none⟩ (I x)) v A1 A2 A3 q1 q2 q3 tb ob rows nr th (fun i => if i = j then (fun q => if q = k then x else f j q) else f i) := by
  obtain ⟨h1, h2, h3⟩ := h.lo
  obtain ⟨n1, n2, n3, n4⟩ := h.ne j hj
  refine ⟨h.bl.setCell (p := ⟨rows j, k, none⟩) (by dsimp only; omega) _, h.bx.far (p := ⟨rows j, k, none⟩) (by dsimp only; omega) _, h.thx.far (p := ⟨rows j, k, none⟩) n2 _, h.obx.far (p := ⟨rows j, k, none⟩) n3 _, fun i hi => ?_, h.lo, h.ne⟩
  by_cases e : i = j
  · subst e
    have := (h.rw_ i hi).set k (I x)
    rw [thL_set] at this
    rw [if_pos rfl]
    exact this
  · rw [if_neg e]
    exact (h.rw_ i hi).far (p := ⟨rows j, k, none⟩) (n4 i hi (fun e2 => e e2.symm)) _
/-- A row more. -/
theorem DocW.addRow (h : DocW w wr v A1 A2 A3 q1 q2 q3 tb ob rows nr th f) (hn : nr < 61) (g : Nat → Int) (hg : ∀ k, k < v.tr.length → g k = 0) : DocW w ((wr.alloc (.cells (List.replicate v.tr.length (I 0)).toArray 3)).setCell ⟨ob, nr, none⟩ (.slice (some ⟨wr.heap.size, 0, none⟩) v.tr.length v.tr.length)) v A1 A2 A3 q1 q2 q3 tb ob (fun j => if j = nr then wr.heap.size else rows j) (nr + 1) th (fun i => if i = nr then g else f i) := by
  have hB := below1 wr (.cells (List.replicate v.tr.length (I 0)).toArray 3)
  have h2 := h.below hB
  obtain ⟨l1, l2, l3⟩ := h.lo
  have hz := h.size
  have hz1 := h.thx.1
  have hz2 := h.obx.1
  have hrz : ∀ j, j < nr → rows j < wr.heap.size := fun j hj => (h.rw_ j hj).1
  have hnew := Box.new wr (List.replicate v.tr.length (I 0)) 3
  refine ⟨h2.bl.setCell (p := ⟨ob, nr, none⟩) (by dsimp only; omega) _, h2.bx.far (p := ⟨ob, nr, none⟩) (by dsimp only; omega) _, h2.thx.far (p := ⟨ob, nr, none⟩) (fun e => l3 e.symm) _, ?_, fun i hi => ?_, h.lo, fun i hi => ?_⟩
  · have := h2.obx.set nr (.slice (some ⟨wr.heap.size, 0, none⟩) v.tr.length v.tr.length)
    rw [outL_set _ _ hn] at this
    exact this
  · by_cases e : i = nr
    · subst e
      simp only [if_true]
      have e2 : (thL v.tr.length g).map I = List.replicate v.tr.length (I 0) := by
        rw [thL_congr hg]
        simp [thL, List.map_const']
      rw [e2]
      exact hnew.far (p := ⟨ob, i, none⟩) (by dsimp only; omega) _
    · simp only [if_neg e]
      exact (h2.rw_ i (by omega)).far (p := ⟨ob, nr, none⟩) (fun e2 => (h.ne i (by omega)).2.2.1 e2.symm) _
  · by_cases e : i = nr
    · subst e
      simp only [if_true]
      refine ⟨by omega, by omega, by omega, fun j hj hne => ?_⟩
      rw [if_neg (fun e => hne e.symm)]
      have := hrz j (by omega)
      omega
    · simp only [if_neg e]
      obtain ⟨n1, n2, n3, n4⟩ := h.ne i (by omega)
      refine ⟨n1, n2, n3, fun j hj hne => ?_⟩
      by_cases e2 : j = nr
      · rw [if_pos e2]; have := hrz i (by omega); omega
      · rw [if_neg e2]; exact n4 j (by omega) hne
theorem DocW.rowMore (h : DocW w wr v A1 A2 A3 q1 q2 q3 tb ob rows nr th f) (hn : nr < 61) (g : Nat → Int) (hg : ∀ k, k < v.tr.length → g k = 0) : DocW w ((wr.setCell ⟨ob, nr, none⟩ (.slice (some ⟨wr.heap.size, 0, none⟩) v.tr.length v.tr.length)).alloc (.cells (zI v.tr.length) 3)) v A1 A2 A3 q1 q2 q3 tb ob (fun j => if j = nr then wr.heap.size else rows j) (nr + 1) th (fun i => if i = nr then g else f i) := by
  have h1 := h.addRow hn g hg
  rw [World.setCell_alloc_past _ _ _ _ h.obx.1] at h1
  exact h1
end
/-- How many come by the first j trails. -/
theorem infl_le {v : Vis} {ms : List Mv} {now : Nat} (h : MadeTo v ms now) (h256 : ms.length ≤ 256) (q t : Nat) : ∀ j, 0 ≤ infl v ms q t j ∧ infl v ms q t j ≤ 256000 * j
  | 0 => by simp [infl, sumK]
  | j + 1 => by
    have ih := infl_le h h256 q t j
    unfold infl at ih ⊢
    rw [sumK_succ]
    have := outM_le h (t - (v.far j).2.2.1.toNat) j
    split <;> (push_cast; omega)
theorem infl_succ (v : Vis) (ms : List Mv) (q t j : Nat) : infl v ms q t (j + 1) = infl v ms q t j + (if (v.far j).2.1.toNat = q ∧ (v.far j).2.2.1.toNat ≤ t then outM ms (t - (v.far j).2.2.1.toNat) j else 0) := rfl
end Go.Proofs.YtomfnldlnoiloaaDoor
