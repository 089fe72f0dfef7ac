/- CrowdMore: four copies of a visit, in whatever order they are made; a copy that is turned. -/
import Derived.Test.YtomfnldlnoiloaaDoorCq
import Derived.Test.YtomfnldlnoiloaaDoorV4
namespace Go.Proofs.YtomfnldlnoiloaaDoor
set_option linter.unusedVariables false
set_option linter.unusedSimpArgs false
open Go Go.RowKit Go.Maps

theorem orNe {l : Nat → Bool} {j t : Nat} (h : j ≠ t) : (j == t || l j) = l j := by simp [h]
theorem vNe {val : Nat → Value} {a : Value} {j t : Nat} (h : j ≠ t) : (if j = t then a else val j) = val j := if_neg h
theorem Box.loc {g : Nat} {vs : List Value} : Loc (fun x => x = g) (fun W => Box W g vs) := fun W W' hk hz h =>
  ⟨Nat.lt_of_lt_of_le h.1 hz, fun k hk' => by
    have := h.2 k hk'
    exact ⟨(World.cell?_of_block (hk g rfl)).trans this.1, (World.frozen?_of_block (hk g rfl)).trans this.2⟩⟩
def hdr : Value → List Value
  | .agg a => a.toList
  | _ => []
def zro : List Value := [.slice none 0 0, .slice none 0 0, .slice none 0 0]
def don9 (l : Nat → Bool) (i : Nat) : Bool := if i < 4 then l (3 * i + 2) else if i < 8 then l (i + 8) else false
/-- Things 0 .. 3 are the copies' rows, things 4 .. 7 their boxes. -/
def Th9 (N : Nat) (w8 : World) (v : Vis) (l : Nat → Bool) (val : Nat → Value) (W : World) : Prop :=
  ∃ S P, Thg N w8 (don9 l) S P W ∧
    (∀ i, i < 4 → l (3 * i + 2) = true → ∃ B1 B2 B3 c1 c2 c3, val (3 * i + 2) = visV v B1 B2 B3 c1 c2 c3 ∧ S i = Blk3 B1 B2 B3 ∧ P i = Rows3 N v B1 B2 B3 c1 c2 c3) ∧
    (∀ i, i < 4 → l (12 + i) = true → ∃ g, val (12 + i) = .pointer (some ⟨g, 0, none⟩) ∧ S (4 + i) = (fun x => x = g) ∧ P (4 + i) = fun W => Box W g (cond (l (16 + i)) (hdr (val (3 * i + 2))) zro))
structure J9 (N : Nat) (w8 : World) (v : Vis) (hv fn : Value) (l : Nat → Bool) (val : Nat → Value) (W : World) : Prop where
  mv : ∀ i, i < 4 → l (3 * i) = true → val (3 * i) = fn
  ld : ∀ i, i < 4 → l (3 * i + 1) = true → val (3 * i + 1) = hv
  ord : ∀ i, i < 4 → l (16 + i) = true → l (12 + i) = true ∧ l (3 * i + 2) = true
  th : Th9 N w8 v l val W
section
variable {N : Nat} {w8 : World} {v : Vis} {hv fn : Value} {l : Nat → Bool} {val : Nat → Value} {W : World}
theorem J9.start (hN : N ≤ w8.heap.size) : J9 N w8 v hv fn (fun _ => false) (fun _ => undef) w8.drew :=
  ⟨fun _ _ h => (by cases h), fun _ _ h => (by cases h), fun _ _ h => (by cases h), fun _ _ => False, fun _ _ => True, Thg.start hN _ _ (fun i => by unfold don9; split; rfl; split <;> rfl), fun _ _ h => (by cases h), fun _ _ h => (by cases h)⟩
theorem J9.low (h : J9 N w8 v hv fn l val W) : Below N w8 W := by
  obtain ⟨S, P, hT, _⟩ := h.th
  exact hT.low
theorem J9.size (h : J9 N w8 v hv fn l val W) : N ≤ W.heap.size := by
  obtain ⟨S, P, hT, _⟩ := h.th
  exact hT.size
theorem Th9.keep (h : Th9 N w8 v l val W) {t : Nat} (a : Value) (ht : ∀ i, i < 4 → 3 * i + 2 ≠ t ∧ 12 + i ≠ t ∧ 16 + i ≠ t) : Th9 N w8 v (fun j => j == t || l j) (fun j => if j = t then a else val j) W := by
  obtain ⟨S, P, hT, h1, h2⟩ := h
  refine ⟨S, P, hT.congr fun i hi => ?_, fun i hi hl => ?_, fun i hi hl => ?_⟩
  · unfold don9 at hi ⊢
    split at hi
    · rename_i h4
      try dsimp only at hi
      rw [orNe (ht i h4).1] at hi
      rw [if_pos h4]; exact hi
    · rename_i h4
      rw [if_neg h4]
      split at hi
      · rename_i h8
        try dsimp only at hi
        rw [orNe (by have := (ht (i - 4) (by omega)).2.1; omega)] at hi
        rw [if_pos h8]; exact hi
      · cases hi
  · obtain ⟨n1, n2, n3⟩ := ht i hi
    try dsimp only at hl
    rw [orNe n1] at hl
    try dsimp only
    rw [vNe n1]
    exact h1 i hi hl
  · obtain ⟨n1, n2, n3⟩ := ht i hi
    try dsimp only at hl
    rw [orNe n2] at hl
    try dsimp only
    rw [vNe n2, vNe n1, orNe n3]
    exact h2 i hi hl
theorem J9.mov (h : J9 N w8 v hv fn l val W) (i0 : Nat) (h0 : i0 < 4) : J9 N w8 v hv fn (fun j => j == 3 * i0 || l j) (fun j => if j = 3 * i0 then fn else val j) W := by
  refine ⟨fun i hi hl => ?_, fun i hi hl => ?_, fun i hi hl => ?_, h.th.keep _ fun i hi => by omega⟩
  · by_cases e : 3 * i = 3 * i0
    · try dsimp only
      rw [if_pos e]
    · try dsimp only at hl
      rw [orNe e] at hl
      try dsimp only
      rw [vNe e]
      exact h.mv i hi hl
  · try dsimp only at hl
    rw [orNe (by omega)] at hl
    try dsimp only
    rw [vNe (by omega)]
    exact h.ld i hi hl
  · try dsimp only at hl
    rw [orNe (by omega)] at hl
    try dsimp only
    rw [orNe (by omega), orNe (by omega)]
    exact h.ord i hi hl
theorem J9.load (h : J9 N w8 v hv fn l val W) (i0 : Nat) (h0 : i0 < 4) : J9 N w8 v hv fn (fun j => j == 3 * i0 + 1 || l j) (fun j => if j = 3 * i0 + 1 then hv else val j) W := by
  refine ⟨fun i hi hl => ?_, fun i hi hl => ?_, fun i hi hl => ?_, h.th.keep _ fun i hi => by omega⟩
  · try dsimp only at hl
    rw [orNe (by omega)] at hl
    try dsimp only
    rw [vNe (by omega)]
    exact h.mv i hi hl
  · by_cases e : 3 * i + 1 = 3 * i0 + 1
    · try dsimp only
      rw [if_pos e]
    · try dsimp only at hl
      rw [orNe e] at hl
      try dsimp only
      rw [vNe e]
      exact h.ld i hi hl
  · try dsimp only at hl
    rw [orNe (by omega)] at hl
    try dsimp only
    rw [orNe (by omega), orNe (by omega)]
    exact h.ord i hi hl
theorem J9.call (h : J9 N w8 v hv fn l val W) (i0 : Nat) (h0 : i0 < 4) (hli : l (3 * i0 + 2) = false) {B1 B2 B3 : Option Addr} {c1 c2 c3 : Nat} {W' : World} (hR : Rows3 W.heap.size v B1 B2 B3 c1 c2 c3 W') (hB : Below W.heap.size W W') :
    J9 N w8 v hv fn (fun j => j == 3 * i0 + 2 || l j) (fun j => if j = 3 * i0 + 2 then visV v B1 B2 B3 c1 c2 c3 else val j) W' := by
  have hs : l (16 + i0) = false := by
    cases e : l (16 + i0) with
    | false => rfl
    | true => have := (h.ord i0 h0 e).2; rw [hli] at this; cases this
  have hN := h.size
  refine ⟨fun i hi hl => ?_, fun i hi hl => ?_, fun i hi hl => ?_, ?_⟩
  · try dsimp only at hl
    rw [orNe (by omega)] at hl
    try dsimp only
    rw [vNe (by omega)]
    exact h.mv i hi hl
  · try dsimp only at hl
    rw [orNe (by omega)] at hl
    try dsimp only
    rw [vNe (by omega)]
    exact h.ld i hi hl
  · try dsimp only at hl
    rw [orNe (by omega)] at hl
    have := h.ord i hi hl
    try dsimp only
    rw [orNe (by omega)]
    exact ⟨this.1, by rw [this.2]; simp⟩
  · obtain ⟨S, P, hT, h1, h2⟩ := h.th
    refine ⟨_, _, (hT.turn i0 (Frm.of_below hB (Nat.le_refl _)) (Blk3 B1 B2 B3) (Rows3 N v B1 B2 B3 c1 c2 c3) (fun g hg => .inr (hR.ins g hg)) ⟨own_base hR.r1 hN, own_base hR.r2 hN, own_base hR.r3 hN⟩ Rows3.loc).congr fun i hi => ?_, fun i hi hl => ?_, fun i hi hl => ?_⟩
    · by_cases e : i = i0
      · simp [e]
      · simp only [e, beq_iff_eq, Bool.or_eq_true, false_or, beq_eq_false_iff_ne]
        unfold don9 at hi ⊢
        split at hi
        · rename_i h4
          try dsimp only at hi
          rw [orNe (by omega)] at hi
          rw [if_pos h4]; exact hi
        · rename_i h4
          rw [if_neg h4]
          split at hi
          · rename_i h8
            try dsimp only at hi
            rw [orNe (by omega)] at hi
            rw [if_pos h8]; exact hi
          · cases hi
    · by_cases e : i = i0
      · subst e
        try dsimp only
        rw [if_pos rfl, updT_same, updT_same]
        exact ⟨B1, B2, B3, c1, c2, c3, rfl, rfl, rfl⟩
      · try dsimp only at hl
        rw [orNe (by omega)] at hl
        try dsimp only
        rw [vNe (by omega), updT_other _ _ e, updT_other _ _ e]
        exact h1 i hi hl
    · try dsimp only at hl
      rw [orNe (by omega)] at hl
      try dsimp only
      rw [vNe (by omega), updT_other _ _ (by omega), updT_other _ _ (by omega), orNe (by omega)]
      by_cases e : i = i0
      · subst e
        have h3 := h2 i hi hl
        rw [hs] at h3 ⊢
        exact h3
      · try dsimp only
        rw [vNe (by omega)]
        exact h2 i hi hl
theorem J9.alloc (h : J9 N w8 v hv fn l val W) (i0 : Nat) (h0 : i0 < 4) (hli : l (12 + i0) = false) (ty : TypeId) :
    J9 N w8 v hv fn (fun j => j == 12 + i0 || l j) (fun j => if j = 12 + i0 then .pointer (some ⟨W.heap.size, 0, none⟩) else val j) (W.alloc (.cells zro.toArray ty)) := by
  have hs : l (16 + i0) = false := by
    cases e : l (16 + i0) with
    | false => rfl
    | true => have := (h.ord i0 h0 e).1; rw [hli] at this; cases this
  have hN := h.size
  refine ⟨fun i hi hl => ?_, fun i hi hl => ?_, fun i hi hl => ?_, ?_⟩
  · try dsimp only at hl
    rw [orNe (by omega)] at hl
    try dsimp only
    rw [vNe (by omega)]
    exact h.mv i hi hl
  · try dsimp only at hl
    rw [orNe (by omega)] at hl
    try dsimp only
    rw [vNe (by omega)]
    exact h.ld i hi hl
  · try dsimp only at hl
    rw [orNe (by omega)] at hl
    have := h.ord i hi hl
    refine ⟨by rw [this.1]; simp, ?_⟩
    try dsimp only
    rw [orNe (by omega)]
    exact this.2
  · obtain ⟨S, P, hT, h1, h2⟩ := h.th
    refine ⟨_, _, (hT.turn (4 + i0) (Frm.of_below (below1 W _) (Nat.le_refl _)) (fun x => x = W.heap.size) (fun V => Box V W.heap.size zro) (fun g hg => .inr (by subst hg; simp)) (Box.new W zro ty) Box.loc).congr fun i hi => ?_, fun i hi hl => ?_, fun i hi hl => ?_⟩
    · by_cases e : i = 4 + i0
      · simp [e]
      · simp only [e, beq_iff_eq, Bool.or_eq_true, false_or, beq_eq_false_iff_ne]
        unfold don9 at hi ⊢
        split at hi
        · rename_i h4
          try dsimp only at hi
          rw [orNe (by omega)] at hi
          rw [if_pos h4]; exact hi
        · rename_i h4
          rw [if_neg h4]
          split at hi
          · rename_i h8
            try dsimp only at hi
            rw [orNe (by omega)] at hi
            rw [if_pos h8]; exact hi
          · cases hi
    · try dsimp only at hl
      rw [orNe (by omega)] at hl
      try dsimp only
      rw [vNe (by omega), updT_other _ _ (by omega), updT_other _ _ (by omega)]
      exact h1 i hi hl
    · by_cases e : i = i0
      · subst e
        try dsimp only
        rw [if_pos rfl, updT_same, updT_same, orNe (by omega), hs]
        exact ⟨_, rfl, rfl, rfl⟩
      · try dsimp only at hl
        rw [orNe (by omega)] at hl
        try dsimp only
        rw [vNe (by omega), updT_other _ _ (by omega), updT_other _ _ (by omega), orNe (by omega), vNe (by omega)]
        exact h2 i hi hl
theorem J9.box (h : J9 N w8 v hv fn l val W) (i0 : Nat) (h0 : i0 < 4) (hl : l (12 + i0) = true) : ∃ g, val (12 + i0) = .pointer (some ⟨g, 0, none⟩) ∧ N ≤ g ∧ Box W g (cond (l (16 + i0)) (hdr (val (3 * i0 + 2))) zro) := by
  obtain ⟨S, P, hT, h1, h2⟩ := h.th
  obtain ⟨g, e1, e2, e3⟩ := h2 i0 h0 hl
  have hd : don9 l (4 + i0) = true := by
    unfold don9
    rw [if_neg (by omega), if_pos (by omega), show 4 + i0 + 8 = 12 + i0 by omega]
    exact hl
  have h3 := hT.holds (4 + i0) hd
  rw [e3] at h3
  exact ⟨g, e1, (hT.ins (4 + i0) hd g (by rw [e2])).1, h3⟩
theorem J9.row (h : J9 N w8 v hv fn l val W) (i0 : Nat) (h0 : i0 < 4) (hl : l (3 * i0 + 2) = true) : ∃ B1 B2 B3 c1 c2 c3, val (3 * i0 + 2) = visV v B1 B2 B3 c1 c2 c3 := by
  obtain ⟨S, P, hT, h1, h2⟩ := h.th
  obtain ⟨B1, B2, B3, c1, c2, c3, e1, _⟩ := h1 i0 h0 hl
  exact ⟨B1, B2, B3, c1, c2, c3, e1⟩
theorem J9.store (h : J9 N w8 v hv fn l val W) (i0 : Nat) (h0 : i0 < 4) (hl2 : l (3 * i0 + 2) = true) (hl12 : l (12 + i0) = true) {g : Nat} (hg : val (12 + i0) = .pointer (some ⟨g, 0, none⟩)) (u : Value) {W' : World} (hF : Frm W.heap.size (fun x => x = g) W W') (hb : Box W' g (hdr (val (3 * i0 + 2)))) :
    J9 N w8 v hv fn (fun j => j == 16 + i0 || l j) (fun j => if j = 16 + i0 then u else val j) W' := by
  refine ⟨fun i hi hl => ?_, fun i hi hl => ?_, fun i hi hl => ?_, ?_⟩
  · try dsimp only at hl
    rw [orNe (by omega)] at hl
    try dsimp only
    rw [vNe (by omega)]
    exact h.mv i hi hl
  · try dsimp only at hl
    rw [orNe (by omega)] at hl
    try dsimp only
    rw [vNe (by omega)]
    exact h.ld i hi hl
  · try dsimp only
    rw [orNe (by omega), orNe (by omega)]
    by_cases e : i = i0
    · subst e; exact ⟨hl12, hl2⟩
    · try dsimp only at hl
      rw [orNe (by omega)] at hl
      exact h.ord i hi hl
  · obtain ⟨S, P, hT, h1, h2⟩ := h.th
    have hd : don9 l (4 + i0) = true := by
      unfold don9
      rw [if_neg (by omega), if_pos (by omega), show 4 + i0 + 8 = 12 + i0 by omega]
      exact hl12
    obtain ⟨g', e1, e2, e3⟩ := h2 i0 h0 hl12
    obtain rfl : g = g' := by rw [hg] at e1; simpa using e1
    refine ⟨_, _, (hT.turn (4 + i0) (hF.mono (Nat.le_refl _) (fun k _ hk => ⟨hd, by rw [e2]; exact hk⟩)) (fun x => x = g) (fun V => Box V g (hdr (val (3 * i0 + 2)))) (fun x hx => .inl ⟨hd, by rw [e2]; exact hx⟩) hb Box.loc).congr fun i hi => ?_, fun i hi hl => ?_, fun i hi hl => ?_⟩
    · by_cases e : i = 4 + i0
      · simp [e]
      · simp only [e, beq_iff_eq, Bool.or_eq_true, false_or, beq_eq_false_iff_ne]
        unfold don9 at hi ⊢
        split at hi
        · rename_i h4
          try dsimp only at hi
          rw [orNe (by omega)] at hi
          rw [if_pos h4]; exact hi
        · rename_i h4
          rw [if_neg h4]
          split at hi
          · rename_i h8
            try dsimp only at hi
            rw [orNe (by omega)] at hi
            rw [if_pos h8]; exact hi
          · cases hi
    · try dsimp only at hl
      rw [orNe (by omega)] at hl
      try dsimp only
      rw [vNe (by omega), updT_other _ _ (by omega), updT_other _ _ (by omega)]
      exact h1 i hi hl
    · try dsimp only at hl
      rw [orNe (by omega)] at hl
      by_cases e : i = i0
      · subst e
        try dsimp only
        rw [vNe (by omega), updT_same, updT_same, vNe (by omega)]
        exact ⟨g, hg, rfl, by simp⟩
      · try dsimp only
        rw [vNe (by omega), updT_other _ _ (by omega), updT_other _ _ (by omega), orNe (by omega), vNe (by omega)]
        exact h2 i hi hl
end

/-- A copy: its rows and its box. -/
def CpyP (N : Nat) (vs : Nat → Vis) (gs : Nat → Nat) (S : Nat → Nat → Prop) (i : Nat) (W : World) : Prop :=
  ∃ B1 B2 B3 c1 c2 c3, Rows3 N (vs i) B1 B2 B3 c1 c2 c3 W ∧ Box W (gs i) [.slice B1 (vs i).rm.length c1, .slice B2 (vs i).tr.length c2, .slice B3 (vs i).ar.length c3] ∧ (∀ x, Blk3 B1 B2 B3 x → S i x) ∧ S i (gs i) ∧ ¬ Blk3 B1 B2 B3 (gs i)
/-- Four copies. -/
def Cpy (N : Nat) (w8 : World) (vs : Nat → Vis) (gs : Nat → Nat) (W : World) : Prop := ∃ S, Thg N w8 (fun i => decide (i < 4)) S (CpyP N vs gs S) W
section
variable {N : Nat} {w8 : World} {vs : Nat → Vis} {gs : Nat → Nat} {W W' : World}
theorem CpyP.loc {S : Nat → Nat → Prop} {i : Nat} (vs : Nat → Vis) (gs : Nat → Nat) (N : Nat) : Loc (S i) (CpyP N vs gs S i) := fun W W' hk hz h => by
  obtain ⟨B1, B2, B3, c1, c2, c3, h1, h2, h3, h4, h5⟩ := h
  exact ⟨B1, B2, B3, c1, c2, c3, Rows3.loc W W' (fun g hg => hk g (h3 g hg)) hz h1, Box.loc W W' (fun g hg => hk g (by subst hg; exact h4)) hz h2, h3, h4, h5⟩
theorem Cpy.low (h : Cpy N w8 vs gs W) : Below N w8 W := by
  obtain ⟨S, h⟩ := h
  exact h.low
theorem Cpy.later (h : Cpy N w8 vs gs W) (hB : Below W.heap.size W W') : Cpy N w8 vs gs W' := by
  obtain ⟨S, h⟩ := h
  exact ⟨S, h.later hB⟩
theorem Cpy.get (h : Cpy N w8 vs gs W) (i : Nat) (hi : i < 4) : ∃ B1 B2 B3 c1 c2 c3, Rows3 N (vs i) B1 B2 B3 c1 c2 c3 W ∧ Box W (gs i) [.slice B1 (vs i).rm.length c1, .slice B2 (vs i).tr.length c2, .slice B3 (vs i).ar.length c3] ∧ N ≤ gs i ∧ ¬ Blk3 B1 B2 B3 (gs i) ∧
    ∀ W' v' B1' B2' B3' c1' c2' c3', Frm W.heap.size (fun x => Blk3 B1 B2 B3 x ∨ x = gs i) W W' → (∀ x, Blk3 B1' B2' B3' x → Blk3 B1 B2 B3 x ∨ W.heap.size ≤ x) → Rows3 N v' B1' B2' B3' c1' c2' c3' W' →
      Box W' (gs i) [.slice B1' v'.rm.length c1', .slice B2' v'.tr.length c2', .slice B3' v'.ar.length c3'] → Cpy N w8 (updT vs i v') gs W' := by
  obtain ⟨S, h⟩ := h
  have hd : decide (i < 4) = true := decide_eq_true hi
  obtain ⟨B1, B2, B3, c1, c2, c3, h1, h2, h3, h4, h5⟩ := h.holds i hd
  have hz := h2.1
  refine ⟨B1, B2, B3, c1, c2, c3, h1, h2, (h.ins i hd _ h4).1, h5, fun W' v' B1' B2' B3' c1' c2' c3' hF hblk hR hbx => ?_⟩
  have hins := hR.ins
  have hn5 : ¬ Blk3 B1' B2' B3' (gs i) := fun hb => by
    rcases hblk _ hb with h6 | h6
    · exact h5 h6
    · omega
  obtain ⟨S', hS'⟩ : ∃ S' : Nat → Prop, S' = fun x => S i x ∨ (W.heap.size ≤ x ∧ x < W'.heap.size) := ⟨_, rfl⟩
  have hb' : ∀ x, Blk3 B1' B2' B3' x → S' x := fun x hx => by
    rw [hS']
    rcases hblk x hx with h6 | h6
    · exact .inl (h3 x h6)
    · exact .inr ⟨h6, (hins x hx).2⟩
  have hg' : S' (gs i) := by rw [hS']; exact .inl h4
  have hT := h.turn i (hF.mono (Nat.le_refl _) (fun k _ hk => ⟨hd, by rcases hk with hk | hk; exact h3 k hk; subst hk; exact h4⟩)) S' (fun V => ∃ B1 B2 B3 c1 c2 c3, Rows3 N v' B1 B2 B3 c1 c2 c3 V ∧ Box V (gs i) [.slice B1 v'.rm.length c1, .slice B2 v'.tr.length c2, .slice B3 v'.ar.length c3] ∧ (∀ x, Blk3 B1 B2 B3 x → S' x) ∧ S' (gs i) ∧ ¬ Blk3 B1 B2 B3 (gs i))
    (fun g hg => by rw [hS'] at hg; rcases hg with hg | hg; exact .inl ⟨hd, hg⟩; exact .inr hg) ⟨B1', B2', B3', c1', c2', c3', hR, hbx, hb', hg', hn5⟩
    (fun V V' hk hzz hh => by
      obtain ⟨B1, B2, B3, c1, c2, c3, k1, k2, k3, k4, k5⟩ := hh
      exact ⟨B1, B2, B3, c1, c2, c3, Rows3.loc V V' (fun g hg => hk g (k3 g hg)) hzz k1, Box.loc V V' (fun g hg => hk g (by subst hg; exact k4)) hzz k2, k3, k4, k5⟩)
  refine ⟨updT S i S', ?_⟩
  have hT2 := hT.congr (don' := fun i => decide (i < 4)) (fun j hj => by rw [hj]; simp)
  refine ⟨hT2.low, hT2.size, hT2.ins, fun j hj => ?_, hT2.apart, fun j hj => CpyP.loc _ _ _⟩
  by_cases e : j = i
  · subst e
    have := hT2.holds j hj
    rw [updT_same] at this
    unfold CpyP
    rw [updT_same, updT_same]
    exact this
  · have := hT2.holds j hj
    rw [updT_other _ _ e] at this
    unfold CpyP at this ⊢
    rw [updT_other _ _ e, updT_other _ _ e]
    exact this
end
def gs4 (g0 g1 g2 g3 : Nat) : Nat → Nat
  | 0 => g0
  | 1 => g1
  | 2 => g2
  | _ => g3
theorem J9.fin {N : Nat} {w8 : World} {v : Vis} {hv fn : Value} {l : Nat → Bool} {val : Nat → Value} {W : World} (h : J9 N w8 v hv fn l val W) (hall : ∀ i, i < 20 → l i = true) :
    ∃ g0 g1 g2 g3, val 12 = .pointer (some ⟨g0, 0, none⟩) ∧ val 13 = .pointer (some ⟨g1, 0, none⟩) ∧ val 14 = .pointer (some ⟨g2, 0, none⟩) ∧ val 15 = .pointer (some ⟨g3, 0, none⟩) ∧ Cpy N w8 (fun _ => v) (gs4 g0 g1 g2 g3) W := by
  obtain ⟨S, P, hT, h1, h2⟩ := h.th
  obtain ⟨g0, e0, s0, p0⟩ := h2 0 (by omega) (hall _ (by omega))
  obtain ⟨g1, e1, s1, p1⟩ := h2 1 (by omega) (hall _ (by omega))
  obtain ⟨g2, e2, s2, p2⟩ := h2 2 (by omega) (hall _ (by omega))
  obtain ⟨g3, e3, s3, p3⟩ := h2 3 (by omega) (hall _ (by omega))
  refine ⟨g0, g1, g2, g3, e0, e1, e2, e3, fun i x => S i x ∨ S (4 + i) x, ?_⟩
  have hd1 : ∀ i, i < 4 → don9 l i = true := fun i hi => by unfold don9; rw [if_pos hi]; exact hall _ (by omega)
  have hd2 : ∀ i, i < 4 → don9 l (4 + i) = true := fun i hi => by unfold don9; rw [if_neg (by omega), if_pos (by omega)]; exact hall _ (by omega)
  have hbx : ∀ i, i < 4 → S (4 + i) = (fun x => x = gs4 g0 g1 g2 g3 i) ∧ P (4 + i) = fun W => Box W (gs4 g0 g1 g2 g3 i) (hdr (val (3 * i + 2))) := fun i hi => by
    have hl : l (16 + i) = true := hall _ (by omega)
    rcases (by omega : i = 0 ∨ i = 1 ∨ i = 2 ∨ i = 3) with rfl | rfl | rfl | rfl
    · exact ⟨s0, by rw [p0, hl]; rfl⟩
    · exact ⟨s1, by rw [p1, hl]; rfl⟩
    · exact ⟨s2, by rw [p2, hl]; rfl⟩
    · exact ⟨s3, by rw [p3, hl]; rfl⟩
  refine ⟨hT.low, hT.size, fun i hi g hg => ?_, fun i hi => ?_, fun i j hij hi hj g hg hg' => ?_, fun i hi => CpyP.loc (S := fun i x => S i x ∨ S (4 + i) x) (i := i) _ _ _⟩
  · have hi := of_decide_eq_true hi
    rcases hg with hg | hg
    · exact hT.ins i (hd1 i hi) g hg
    · exact hT.ins _ (hd2 i hi) g hg
  · have hi := of_decide_eq_true hi
    obtain ⟨B1, B2, B3, c1, c2, c3, k1, k2, k3⟩ := h1 i hi (hall _ (by omega))
    have r1 := hT.holds i (hd1 i hi)
    rw [k3] at r1
    have r2 := hT.holds _ (hd2 i hi)
    rw [(hbx i hi).2, k1] at r2
    have r3 := hT.apart i (4 + i) (by omega) (hd1 i hi) (hd2 i hi)
    rw [k2, (hbx i hi).1] at r3
    exact ⟨B1, B2, B3, c1, c2, c3, r1, r2, fun x hx => .inl (by rw [k2]; exact hx), .inr (by rw [(hbx i hi).1]), fun hb => r3 _ hb rfl⟩
  · have hi := of_decide_eq_true hi
    have hj := of_decide_eq_true hj
    rcases hg with hg | hg <;> rcases hg' with hg' | hg'
    · exact hT.apart i j hij (hd1 i hi) (hd1 j hj) g hg hg'
    · exact hT.apart i (4 + j) (by omega) (hd1 i hi) (hd2 j hj) g hg hg'
    · exact hT.apart (4 + i) j (by omega) (hd2 i hi) (hd1 j hj) g hg hg'
    · exact hT.apart (4 + i) (4 + j) (by omega) (hd2 i hi) (hd2 j hj) g hg hg'

/-- The first k are turned. -/
def mapK {α : Type} (h : Nat → α → α) (l : List α) (k : Nat) : List α := l.mapIdx fun i x => if i < k then h i x else x
section
variable {α : Type} {h : Nat → α → α} {l : List α}
theorem mapK_len (h : Nat → α → α) (l : List α) (k : Nat) : (mapK h l k).length = l.length := by simp [mapK]
theorem mapK_at {k : Nat} (h1 : k < (mapK h l k).length) (h2 : k < l.length) : (mapK h l k)[k] = l[k] := by simp [mapK]
theorem mapK_zero (h : Nat → α → α) (l : List α) : mapK h l 0 = l := by
  apply List.ext_getElem
  · simp [mapK]
  · intro i h1 h2
    simp [mapK]
theorem mapK_set {k : Nat} (hk : k < l.length) : (mapK h l k).set k (h k l[k]) = mapK h l (k + 1) := by
  apply List.ext_getElem
  · simp [mapK]
  · intro i h1 h2
    rw [List.getElem_set]
    simp only [mapK, List.getElem_mapIdx]
    by_cases e : k = i
    · subst e; simp
    · rw [if_neg e]
      by_cases e2 : i < k
      · rw [if_pos e2, if_pos (by omega)]
      · rw [if_neg e2, if_neg (by omega)]
theorem mapK_all (h : Nat → α → α) (l : List α) : mapK h l l.length = l.mapIdx h := by
  apply List.ext_getElem
  · simp [mapK]
  · intro i h1 h2
    have h3 : i < l.length := by simpa [mapK] using h1
    simp [mapK, h3]
end
theorem flat3_set : ∀ (l : List (Int × Int × Int)) (k : Nat) (z : Int) (h : k < l.length), flat3 (l.set k (l[k].1, l[k].2.1, z)) = (flat3 l).set (k * 3 + 2) (I z)
  | x :: r, 0, z, h => rfl
  | x :: r, k + 1, z, h => by
    have hk : k < r.length := by simpa using h
    have e : (k + 1) * 3 + 2 = (k * 3 + 2) + 1 + 1 + 1 := by omega
    rw [e]
    show flat3 (x :: r.set k (r[k].1, r[k].2.1, z)) = _
    rw [flat3_cons, flat3_cons, flat3_set r k z hk]
    rfl
/-- A room is stored. -/
theorem Rows3.setRoom {N g : Nat} {v : Vis} {A2 A3 : Option Addr} {c1 c2 c3 : Nat} {W : World} (h : Rows3 N v (some ⟨g, 0, none⟩) A2 A3 c1 c2 c3 W) (k : Nat) (x : Int) :
    Rows3 N ⟨v.rm.set k x, v.tr, v.ar⟩ (some ⟨g, 0, none⟩) A2 A3 c1 c2 c3 (W.setCell ⟨g, k, none⟩ (I x)) := by
  have key : ∀ {e : TypeId} {sz n : Nat} {r : Value} {xs : List Value}, e ≠ 3 → W.ownsRow N e sz r n xs → (W.setCell ⟨g, k, none⟩ (I x)).ownsRow N e sz r n xs := fun he ho => own_at ho fun g' hg' => Below.heap_setCell _ _ _ _ (by
    intro e2
    rcases own_ne ho h.r1 he with h2 | h2
    · rw [h2] at hg'; cases hg'
    · exact h2 (hg'.trans (by rw [e2]; rfl)))
  refine ⟨?_, key (by decide) h.r2, key (by decide) h.r3⟩
  have := (h.r1.stored k (I x)).1
  rw [← List.map_set] at this
  simpa using this
/-- A trail's room is stored. -/
theorem Rows3.setTrail {N g : Nat} {v : Vis} {A1 A3 : Option Addr} {c1 c2 c3 : Nat} {W : World} (h : Rows3 N v A1 (some ⟨g, 0, none⟩) A3 c1 c2 c3 W) (k : Nat) (hk : k < v.tr.length) (x : Int) :
    Rows3 N ⟨v.rm, v.tr.set k (v.tr[k].1, v.tr[k].2.1, v.tr[k].2.2.1, x), v.ar⟩ A1 (some ⟨g, 0, none⟩) A3 c1 c2 c3 (W.setCell ⟨g, k * 4 + 3, none⟩ (I x)) := by
  have key : ∀ {e : TypeId} {sz n : Nat} {r : Value} {xs : List Value}, e ≠ 51 → W.ownsRow N e sz r n xs → (W.setCell ⟨g, k * 4 + 3, none⟩ (I x)).ownsRow N e sz r n xs := fun he ho => own_at ho fun g' hg' => Below.heap_setCell _ _ _ _ (by
    intro e2
    rcases own_ne ho h.r2 he with h2 | h2
    · rw [h2] at hg'; cases hg'
    · exact h2 (hg'.trans (by rw [e2]; rfl)))
  refine ⟨key (by decide) h.r1, ?_, key (by decide) h.r3⟩
  have := (h.r2.stored (k * 4 + 3) (I x)).1
  rw [← flat4_set v.tr k x hk] at this
  simpa using this
/-- The people of an arrival are stored. -/
theorem Rows3.setPeople {N g : Nat} {v : Vis} {A1 A2 : Option Addr} {c1 c2 c3 : Nat} {W : World} (h : Rows3 N v A1 A2 (some ⟨g, 0, none⟩) c1 c2 c3 W) (k : Nat) (hk : k < v.ar.length) (x : Int) :
    Rows3 N ⟨v.rm, v.tr, v.ar.set k (v.ar[k].1, v.ar[k].2.1, x)⟩ A1 A2 (some ⟨g, 0, none⟩) c1 c2 c3 (W.setCell ⟨g, k * 3 + 2, none⟩ (I x)) := by
  have key : ∀ {e : TypeId} {sz n : Nat} {r : Value} {xs : List Value}, e ≠ 49 → W.ownsRow N e sz r n xs → (W.setCell ⟨g, k * 3 + 2, none⟩ (I x)).ownsRow N e sz r n xs := fun he ho => own_at ho fun g' hg' => Below.heap_setCell _ _ _ _ (by
    intro e2
    rcases own_ne ho h.r3 he with h2 | h2
    · rw [h2] at hg'; cases hg'
    · exact h2 (hg'.trans (by rw [e2]; rfl)))
  refine ⟨key (by decide) h.r1, key (by decide) h.r2, ?_⟩
  have := (h.r3.stored (k * 3 + 2) (I x)).1
  rw [← flat3_set v.ar k x hk] at this
  simpa using this
end Go.Proofs.YtomfnldlnoiloaaDoor
