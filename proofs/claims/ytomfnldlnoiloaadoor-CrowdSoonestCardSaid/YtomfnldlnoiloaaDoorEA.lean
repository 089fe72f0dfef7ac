/- The document's network in memory: all arcs in one row, and a row of numbers for each node. -/
import Derived.Test.YtomfnldlnoiloaaDoorCA
import Derived.Test.YtomfnldlnoiloaaDoorS5
import Derived.Test.YtomfnldlnoiloaaDoorD2
import Derived.Test.YtomfnldlnoiloaaDoorD7
namespace Go.Proofs.YtomfnldlnoiloaaDoor
set_option linter.unusedVariables false
set_option linter.unusedSimpArgs false
open Go Go.RowKit Go.Maps

section
variable {F : Fence} {n : Nat} {P : Program} {Q : Exit → Act → World → Prop}
theorem opIn_append_blk (hro : F.round = none) (w : World) {o : Oper} {a : Act} {K : Act → World → Prop} (s x : Operand) (t : TypeId)
    (ho : o.op = .call { callee := .builtin .append, args := #[s, x], argTypes := #[t, t] })
    (base : Nat) (e : TypeId) (i : TypeInfo) (z : Value) (size bytes : Nat) (ht : P.underlying t = some (.slice e)) (hi : P.info? e = some i) (hz : i.zero = some z)
    (hsize : i.size = size) (hby : i.bytes = bytes) (hzs : z.cells.size = size) (hsz : 0 < size)
    (v : Value) (k : Nat) (xs : List Value) (hs : a.eval s = v) (hown : w.ownsRow base e size v k xs)
    (ad : Addr) (m c : Nat) (news : List Value) (hx : a.eval x = .slice (some ad) m c) (hm : 0 < m) (hl : news.length = m * size) (hnews : ∀ j u, news[j]? = some u → w.cell? (ad.add j) = some u) (h1 : ∀ u ∈ news, u.oneCell' = true)
    (h63 : k + m ≤ maxLen) (hbytes : (k + m) * bytes ≤ 140737488355328) (hbase : base ≤ w.heap.size)
    (h : ∀ v' w', w'.ownsRow base e size v' (k + m) (xs ++ news) → w.grownBy w' v.ownBlock → (v'.ownBlock = v.ownBlock ∨ v'.ownBlock = some w.heap.size) → K (a.put o.dst v') w') : o.wpIn F n P a w K Q := by
  obtain ⟨v', w', hr, h2, h3, h4⟩ := run_append_blk (P := P) w base t o.type e i z size bytes ht hi hz hsize hby hzs hsz v k xs hown ad m c news hm hl hnews h1 h63 hbytes hbase
  unfold Oper.wpIn
  refine ⟨?_, ?_⟩
  · simp [Oper.about, ho, resolve, Target.leads, Sem.run_pure]
  · rw [hro, Oper.semAt_none]
    simp only [execOp, ho, resolve, invoke, builtin, Sem.run_bind, Sem.run_pure, Result.andThen_ok, List.map_toArray, List.map_cons, List.map_nil, hs, hx, hr]
    exact h v' w' h2 h3 h4
end
abbrev Arc := Int × Int × Int
/-- The network: its arcs `ars`, and node x's numbers `os x`. -/
structure DN (N : Nat) (os : Nat → List Int) (ars : List Arc) (av : Value) (ob : Nat) (rv : Nat → Value) (W : World) : Prop where
  arcs : W.ownsRow 0 106 3 av ars.length (flat3 ars)
  out : W.ownsRow 0 22 1 (.slice (some ⟨ob, 0, none⟩) N N) N ((List.range N).map rv)
  rows : ∀ x, x < N → W.ownsRow 0 3 1 (rv x) (os x).length ((os x).map I)
  apart : ∀ x y, x < N → y < N → x ≠ y → (rv x).ownBlock = none ∨ (rv x).ownBlock ≠ (rv y).ownBlock
/-- Its blocks. -/
def DNb (N : Nat) (av : Value) (ob : Nat) (rv : Nat → Value) (g : Nat) : Prop := av.ownBlock = some g ∨ g = ob ∨ ∃ x, x < N ∧ (rv x).ownBlock = some g
abbrev netV (N : Nat) (av : Value) (ob : Nat) : Value := .agg #[av, .slice (some ⟨ob, 0, none⟩) N N]
def push (os : Nat → List Int) (x : Nat) (i : Int) : Nat → List Int := fun y => if y = x then os y ++ [i] else os y
section
variable {N : Nat} {os : Nat → List Int} {ars : List Arc} {av : Value} {ob : Nat} {rv : Nat → Value} {W W' : World}
theorem DN.loc : Loc (DNb N av ob rv) (DN N os ars av ob rv) := fun W W' hk _ h =>
  ⟨own_at h.arcs fun g hg => hk g (.inl hg), own_at h.out fun g hg => hk g (.inr (.inl (by simpa [Value.ownBlock] using hg.symm))), fun x hx => own_at (h.rows x hx) fun g hg => hk g (.inr (.inr ⟨x, hx, hg⟩)), h.apart⟩
theorem DN.lt (h : DN N os ars av ob rv W) (g : Nat) (hg : DNb N av ob rv g) : g < W.heap.size := by
  rcases hg with hg | rfl | ⟨x, hx, hg⟩
  · exact (h.arcs.lt g hg).2
  · exact (h.out.lt _ rfl).2
  · exact ((h.rows x hx).lt g hg).2
theorem DN.below (h : DN N os ars av ob rv W) (hB : Below W.heap.size W W') : DN N os ars av ob rv W' :=
  DN.loc W W' (fun g hg => hB.block g (h.lt g hg)) hB.size h
theorem DN.frm {S : Nat → Prop} (h : DN N os ars av ob rv W) (hF : Frm W.heap.size S W W') (hS : ∀ g, DNb N av ob rv g → ¬ S g) : DN N os ars av ob rv W' :=
  DN.loc W W' (fun g hg => hF.block g (h.lt g hg) (hS g hg)) hF.size h
/-- Node x's row, ars a cell. -/
theorem DN.row (h : DN N os ars av ob rv W) {x : Nat} (hx : x < N) : W.cell? ⟨ob, x, none⟩ = some (rv x) ∧ W.frozen? ⟨ob, x, none⟩ = false := by
  refine ⟨?_, h.out.frozenAt x⟩
  rw [h.out.cellAt x (by omega), List.getElem?_map, List.getElem?_range hx]
  rfl
theorem map_range_set {α : Type} (f : Nat → α) {N x : Nat} (u : α) (hx : x < N) : ((List.range N).map f).set x u = (List.range N).map (updT f x u) := by
  apply List.ext_getElem
  · simp
  · intro i h1 h2
    rw [List.getElem_set]
    simp only [List.getElem_map, List.getElem_range]
    by_cases e : x = i
    · subst e; rw [if_pos rfl, updT_same]
    · rw [if_neg e, updT_other _ _ (Ne.symm e)]
/-- A number more in node x's row: behind the append, and behind the store. -/
theorem DN.push (h : DN N os ars av ob rv W) {x : Nat} (hx : x < N) {i : Int} {v' : Value} (ho : W'.ownsRow 0 3 1 v' ((os x).length + 1) ((os x).map I ++ [I i])) (hg : W.grownBy W' (rv x).ownBlock) (hb : v'.ownBlock = (rv x).ownBlock ∨ v'.ownBlock = some W.heap.size) :
    (∃ u, W'.cell? ⟨ob, x, none⟩ = some u) ∧ W'.frozen? ⟨ob, x, none⟩ = false ∧ DN N (push os x i) ars av ob (updT rv x v') (W'.setCell ⟨ob, x, none⟩ v') ∧ Frm W.heap.size (DNb N av ob rv) W (W'.setCell ⟨ob, x, none⟩ v') ∧ ∀ g, DNb N av ob (updT rv x v') g → DNb N av ob rv g ∨ W.heap.size ≤ g := by
  have hob : ob < W.heap.size := (h.out.lt _ rfl).2
  have hne : (rv x).ownBlock ≠ some ob := fun e => by
    rcases own_ne (h.rows x hx) h.out (by decide) with h1 | h1
    · rw [h1] at e; cases e
    · exact h1 e
  have hout := h.out.kept hg (.inr (fun e => hne e.symm))
  have hv' : v'.ownBlock ≠ some ob := fun e => by
    rcases hb with h1 | h1
    · exact hne (h1.symm.trans e)
    · rw [h1] at e
      have : W.heap.size = ob := by simpa using e
      omega
  have key : ∀ {e : TypeId} {sz n : Nat} {r : Value} {xs : List Value}, W'.ownsRow 0 e sz r n xs → r.ownBlock ≠ some ob → (W'.setCell ⟨ob, x, none⟩ v').ownsRow 0 e sz r n xs := fun ho hn => own_at ho fun g hg => Below.heap_setCell _ _ _ _ (by
    intro e2
    exact hn (hg.trans (by rw [e2])))
  have har := own_ne h.arcs (h.rows x hx) (by decide)
  have hao : av.ownBlock ≠ some ob := fun e => by
    rcases own_ne h.arcs h.out (by decide) with h1 | h1
    · rw [h1] at e; cases e
    · exact h1 e
  have hblk : ∀ g, DNb N av ob (updT rv x v') g → DNb N av ob rv g ∨ W.heap.size ≤ g := fun g hg => by
    rcases hg with hg | rfl | ⟨y, hy, hg⟩
    · exact .inl (.inl hg)
    · exact .inl (.inr (.inl rfl))
    · by_cases e : y = x
      · subst e
        rw [updT_same] at hg
        rcases hb with h1 | h1
        · exact .inl (.inr (.inr ⟨y, hy, h1.symm.trans hg⟩))
        · right
          have : W.heap.size = g := by rw [h1] at hg; simpa using hg
          omega
      · rw [updT_other _ _ e] at hg
        exact .inl (.inr (.inr ⟨y, hy, hg⟩))
  refine ⟨⟨rv x, by rw [hout.cellAt x (by omega), List.getElem?_map, List.getElem?_range hx]; rfl⟩, hout.frozenAt x, ⟨key (h.arcs.kept hg har) hao, ?_, fun y hy => ?_, fun y z hy hz hyz => ?_⟩, Frm.setCell ((Frm.refl _ _ _).grown hg (Nat.le_refl _) fun k hk => .inr (.inr (.inr ⟨x, hx, hk⟩))) (.inr (.inr (.inl rfl))) _, hblk⟩
  · have := (hout.stored x v').1
    rw [map_range_set rv v' hx] at this
    exact this
  · unfold Go.Proofs.YtomfnldlnoiloaaDoor.push
    by_cases e : y = x
    · subst e
      rw [if_pos rfl, updT_same]
      have := key ho hv'
      rw [show (os y).map I ++ [I i] = (os y ++ [i]).map I by simp] at this
      rw [List.length_append, List.length_singleton]
      exact this
    · rw [if_neg e, updT_other _ _ e]
      refine key ((h.rows y hy).kept hg (h.apart y x hy hx e)) (fun e2 => ?_)
      rcases own_ne (h.rows y hy) h.out (by decide) with h1 | h1
      · rw [h1] at e2; cases e2
      · exact h1 e2
  · have hnew : ∀ y, y < N → y ≠ x → (rv y).ownBlock = none ∨ (rv y).ownBlock ≠ v'.ownBlock := fun y hy hyx => by
      rcases hb with h1 | h1
      · rw [h1]; exact h.apart y x hy hx hyx
      · right
        intro e
        rw [h1] at e
        have := ((h.rows y hy).lt _ e).2
        omega
    by_cases e1 : y = x
    · by_cases e2 : z = x
      · exact absurd (e1.trans e2.symm) hyz
      · subst e1
        rw [updT_same, updT_other _ _ e2]
        rcases hnew z hz e2 with h1 | h1
        · cases hv : v'.ownBlock with
          | none => exact .inl rfl
          | some g => exact .inr (by rw [h1]; simp)
        · exact .inr (fun e => h1 e.symm)
    · rw [updT_other _ _ e1]
      by_cases e2 : z = x
      · subst e2
        rw [updT_same]
        exact hnew y hy e1
      · rw [updT_other _ _ e2]
        exact h.apart y z hy hz hyz
/-- Two arcs more. -/
theorem DN.more (h : DN N os ars av ob rv W) {a b : Arc} {v' : Value} (ho : W'.ownsRow 0 106 3 v' (ars.length + 2) (flat3 ars ++ [I a.1, I a.2.1, I a.2.2, I b.1, I b.2.1, I b.2.2])) (hg : W.grownBy W' av.ownBlock) (hb : v'.ownBlock = av.ownBlock ∨ v'.ownBlock = some W.heap.size) :
    DN N os (ars ++ [a, b]) v' ob rv W' ∧ Frm W.heap.size (DNb N av ob rv) W W' ∧ ∀ g, DNb N v' ob rv g → DNb N av ob rv g ∨ W.heap.size ≤ g := by
  have hor := own_ne h.out h.arcs (by decide)
  refine ⟨⟨?_, h.out.kept hg hor, fun x hx => (h.rows x hx).kept hg (own_ne (h.rows x hx) h.arcs (by decide)), h.apart⟩, (Frm.refl _ _ _).grown hg (Nat.le_refl _) fun k hk => .inr (.inl hk), fun g hg => ?_⟩
  · have e : flat3 ars ++ [I a.1, I a.2.1, I a.2.2, I b.1, I b.2.1, I b.2.2] = flat3 (ars ++ [a, b]) := by simp [flat3]
    rw [e] at ho
    rw [List.length_append]
    exact ho
  · rcases hg with hg | hg | hg
    · rcases hb with h1 | h1
      · exact .inl (.inl (h1.symm.trans hg))
      · right
        have : W.heap.size = g := by rw [h1] at hg; simpa using hg
        omega
    · exact .inl (.inr (.inl hg))
    · exact .inl (.inr (.inr hg))
end
theorem info106 : (Tryd.prog.info? 106).map (fun i => (i.zero, i.size, i.bytes)) = some (some (.agg #[I 0, I 0, I 0]), 3, 24) := by kernel_rfl
end Go.Proofs.YtomfnldlnoiloaaDoor

/- The document's add (67). Printed by mkE2.py. -/
namespace Go.Proofs.YtomfnldlnoiloaaDoor
set_option linter.unusedVariables false
set_option linter.unusedSimpArgs false
open Go Go.RowKit Go.Maps

set_option maxRecDepth 100000 in
set_option maxHeartbeats 8000000 in
theorem add67 (N : Nat) (os : Nat → List Int) (ars : List Arc) (av : Value) (ob : Nat) (rv : Nat → Value) (fr tt : Nat) (c : Int) (w : World) (h : DN N os ars av ob rv w) (hfr : fr < N) (hto : tt < N) (hal : ars.length ≤ 100000) (hol : ∀ x, x < N → (os x).length ≤ 100000) :
    Calls Tryd.prog 67 #[netV N av ob, I fr, I tt, I c] w fun e w' => ∃ av' rv', e = .returned (netV N av' ob) ∧ DN N (push (push os fr ars.length) tt (ars.length + 1)) (ars ++ [((fr : Int), (tt : Int), c), ((tt : Int), (fr : Int), 0)]) av' ob rv' w' ∧ Frm w.heap.size (DNb N av ob rv) w w' ∧ ∀ g, DNb N av' ob rv' g → DNb N av ob rv g ∨ w.heap.size ≤ g := by
  obtain ⟨A, ca, rfl⟩ : ∃ A c, av = .slice A ars.length c := by
    rcases own_formS h.arcs with ⟨h1, h2⟩ | ⟨g, cap, h1, _⟩
    · exact ⟨none, 0, by rw [h1, h2]⟩
    · exact ⟨_, cap, h1⟩
  obtain ⟨av, hav⟩ : ∃ y, Value.slice A ars.length ca = y := ⟨_, rfl⟩
  have HAV := Lib.hid hav
  obtain ⟨i0, hi0, hi1, hi2, hi3⟩ := info_parts info106
  obtain ⟨j0, hj0, hj1, hj2, hj3⟩ := info_parts info3
  have HLT : Hid (∀ g, DNb N av ob rv g → g < w.heap.size) := Lib.hid fun g hg => h.lt g (by rw [hav]; exact hg)
  obtain ⟨w1, hw1⟩ : ∃ y, (w.alloc (.cells #[.slice A ars.length ca, .slice (some ⟨ob, 0, none⟩) N N] 82)).alloc (.cells #[.slice none 0 0, .slice none 0 0] 82) = y := ⟨_, rfl⟩
  have hz1 : w.heap.size + 1 < w1.heap.size := by rw [← hw1]; simp
  have hB1 : Below w.heap.size w w1 := by rw [← hw1]; (repeat' (first | assumption | exact Below.refl _ _ | refine Below.drew ?_ | refine below_drewN ?_ _ | refine Below.setCell ?_ (by first | omega | (simp; done) | (simp; omega)) _ | refine Below.alloc ?_ (by first | omega | (simp; done) | (simp; omega)) _ | refine Below.trans ?_ (Below.mono (by assumption) (by first | omega | (simp; done) | (simp; omega)))))
  have b1 : Box w1 w.heap.size [.slice A ars.length ca, .slice (some ⟨ob, 0, none⟩) N N] := by rw [← hw1]; exact (Box.new w [.slice A ars.length ca, .slice (some ⟨ob, 0, none⟩) N N] 82).alloc _
  have b2 : Box w1 (w.heap.size + 1) [.slice none 0 0, .slice none 0 0] := by
    have h := Box.new (w.alloc (.cells #[.slice A ars.length ca, .slice (some ⟨ob, 0, none⟩) N N] 82)) [.slice none 0 0, .slice none 0 0] 82
    rw [World.size_alloc] at h
    rw [← hw1]; exact h
  have f0 : (0 : Int) ≤ (fr : Int) := by omega
  have f1 : (fr : Int) < (N : Int) := by omega
  have t0 : (0 : Int) ≤ (tt : Int) := by omega
  have t1 : (tt : Int) < (N : Int) := by omega
  obtain ⟨x0, z0⟩ := b1.at_ 0 _ rfl
  obtain ⟨x1, -⟩ := b1.at_ 1 _ rfl
  have hD1 := h.below hB1
  clear hav
  go_enter Tryd.func67, Tryd.ntmps67
  go_upto_region 2 with (fail)
  try rw [hw1]
  have hB2 := below1 w1 (.cells #[I fr, I tt, I c, I tt, I fr, I 0] 106)
  have hown2 := (hD1.below hB2).arcs
  have hcn2 : ∀ j u, ([I fr, I tt, I c, I tt, I fr, I 0] : List Value)[j]? = some u → (w1.alloc (.cells #[I fr, I tt, I c, I tt, I fr, I 0] 106)).cell? ((⟨w1.heap.size, 0, none⟩ : Addr).add j) = some u := cells_new w1 [I fr, I tt, I c, I tt, I fr, I 0] 106
  go_upto_region 3 with (first
    | (at_builtin; refine wpList_append_blk _ rfl _ _ 80 rfl 0 106 i0 (.agg #[I 0, I 0, I 0]) 3 24 Tryd.underlying80 hi0 hi1 hi2 hi3 rfl (by decide) _ ars.length (flat3 ars) rfl hown2 ⟨w1.heap.size, 0, none⟩ 2 2 [I fr, I tt, I c, I tt, I fr, I 0] rfl (by decide) rfl hcn2 (by simp [Value.oneCell']) (by unfold maxLen; omega) (by omega) (Nat.zero_le _) ?_; intro v2 w2 ho2 hg2 hb2; obtain ⟨hD2, hF2, hK2⟩ := (hD1.below hB2).more (a := ((fr : Int), (tt : Int), c)) (b := ((tt : Int), (fr : Int), 0)) ho2 hg2 hb2; obtain ⟨G2, c2, rfl⟩ : ∃ A cap, v2 = .slice A (ars.length + 2) cap := (by rcases own_formS ho2 with ⟨_, h7⟩ | ⟨g, cap, h7, h8, h9⟩; (omega); exact ⟨_, cap, h7⟩); have hb1n : ¬ DNb N (.slice A ars.length ca) ob rv w.heap.size := (fun hs => by have := h.lt _ hs; omega); have hb1m : ¬ DNb N (.slice A ars.length ca) ob rv (w.heap.size + 1) := (fun hs => by have := h.lt _ hs; omega); have q1 := (b1.alloc (.cells #[I fr, I tt, I c, I tt, I fr, I 0] 106)); have q2 := (b2.alloc (.cells #[I fr, I tt, I c, I tt, I fr, I 0] 106)); have q1' := q1.frm hF2 q1.1 hb1n; have q2' := q2.frm hF2 q2.1 hb1m; obtain ⟨y0, w0⟩ := q1'.at_ 0 _ rfl; clear x0 z0 x1)
    | fail)
  obtain ⟨w3, hw3⟩ : ∃ y, w2.setCell ⟨w.heap.size, 0, none⟩ (.slice G2 (ars.length + 2) c2) = y := ⟨_, rfl⟩
  have hF3 : Frm w2.heap.size (fun x => x = w.heap.size) w2 w3 := by rw [← hw3]; exact (Frm.refl _ (fun x => x = w.heap.size) _).setCell (.inr rfl) _
  have HBK3 : Hid (∀ g, DNb N (.slice G2 (ars.length + 2) c2) ob rv g → DNb N av ob rv g ∨ w.heap.size + 2 ≤ g) := Lib.hid fun g hg => by
    rw [← HAV.out]
    rcases hK2 g hg with h1 | h1
    · exact .inl h1
    · right; simp at h1; omega
  have HD3 : Hid (DN N os (ars ++ [((fr : Int), (tt : Int), c), ((tt : Int), (fr : Int), 0)]) (.slice G2 (ars.length + 2) c2) ob rv w3) := Lib.hid (by
    exact hD2.frm hF3 (fun g hg hs => by
      rcases hK2 g hg with h1 | h1
      · have := h.lt g h1; omega
      · simp at h1; omega))
  have HFR3 : Hid (Frm w.heap.size (DNb N av ob rv) w w3) := Lib.hid (by
    rw [← HAV.out]
    have hBB := hB1.trans (hB2.mono (by omega))
    have h1 : Frm w.heap.size (DNb N (.slice A ars.length ca) ob rv) w w2 := (Frm.of_below hBB (Nat.le_refl _)).trans (hF2.mono hBB.size (fun k hk hs => hs))
    exact h1.trans (hF3.mono h1.size (fun k hk hs => by omega)))
  have HBX3 : Hid (Box w3 w.heap.size [.slice G2 (ars.length + 2) c2, .slice (some ⟨ob, 0, none⟩) N N] ∧ Box w3 (w.heap.size + 1) [.slice none 0 0, .slice none 0 0]) := Lib.hid (by
    rw [← hw3]
    exact ⟨q1'.set 0 _, q2'.far (p := ⟨w.heap.size, 0, none⟩) (by dsimp only; omega) _⟩)
  rw [hw3]
  clear hw3 hF3 hD2 hF2 hK2 q1 q2 q1' q2' y0 w0 hD1 hB1 hB2 hown2 hcn2 b1 b2 h hw1 hb1n hb1m ho2 hg2 hb2
  go_upto_region 3 with (fail)
  have hr3 := HD3.out.row (x := fr) hfr
  have HF3 : Hid (∀ W, Frm w3.heap.size (fun g => (rv fr).ownBlock = some g) w3 W → W.cell? ⟨w.heap.size, 1, none⟩ = some (.slice (some ⟨ob, 0, none⟩) N N) ∧ W.cell? ⟨ob, fr, none⟩ = some (rv fr)) := Lib.hid fun W hF => by
    have hz := (HBX3.out.1).1
    have hob := (HD3.out.out.lt _ rfl).2
    have hne : (rv fr).ownBlock ≠ some ob := fun e => by
      rcases own_ne (HD3.out.rows fr hfr) HD3.out.out (by decide) with h1 | h1
      · rw [h1] at e; cases e
      · exact h1 e
    have hne2 : (rv fr).ownBlock ≠ some w.heap.size := fun e => by
      rcases HBK3.out _ (.inr (.inr ⟨fr, hfr, e⟩)) with h1 | h1
      · have := HLT.out _ h1; omega
      · omega
    exact ⟨(hF.cell hz hne2).trans (HBX3.out.1.at_ 1 _ rfl).1, (hF.cell hob hne).trans hr3.1⟩
  have hcn3 : ∀ j u, ([I ars.length] : List Value)[j]? = some u → (w3.alloc (.cells #[I ars.length] 3)).cell? ((⟨w3.heap.size, 0, none⟩ : Addr).add j) = some u := cells_new w3 [I ars.length] 3
  have hown3 : ((w3.alloc (.cells #[I ars.length] 3)).drew).ownsRow 0 3 1 (rv fr) (os fr).length ((os fr).map I) := (((HD3.out.below (below1 w3 (.cells #[I ars.length] 3))).rows fr hfr)).drew
  have hlen3 : (os fr).length ≤ 100001 := by have := hol fr hfr; omega
  clear hr3
  refine (wpIn_wide (n := 9)).1 ?_
  refine wpIn_region_plan (Plan.ons [0, 1, 2, 3, 4, 5, 6, 7, 8, 9, 10, 11, 12] .fin) [0, 1, 2, 3, 4, 5, 6, 7] (fun W => Frm w3.heap.size (fun g => (rv fr).ownBlock = some g) w3 W) [12] rfl (by kernel_rfl) (by kernel_rfl) (fun _ d _ _ _ h => by cases d <;> exact h) (Frm.refl _ _ _).drew ?_
  (refine ordQ_held (.pointer (some ⟨w.heap.size, 1, none⟩)) rfl rfl rfl rfl (fun W' hC' => ?_) (fun K hK => ?_); (focus (obtain ⟨a1, a2⟩ := HF3.out _ hC'; go_simp; try exact ⟨rfl, rfl⟩)); go_simp; refine hK _ ?_; clear hK K)
  (refine ordQ_held (.slice (some ⟨ob, 0, none⟩) N N) rfl rfl rfl rfl (fun W' hC' => ?_) (fun K hK => ?_); (focus (obtain ⟨a1, a2⟩ := HF3.out _ hC'; go_simp; try exact ⟨rfl, rfl⟩)); go_simp; refine hK _ ?_; clear hK K)
  (refine ordQ_held (I fr) rfl rfl rfl rfl (fun W' hC' => ?_) (fun K hK => ?_); (focus (obtain ⟨a1, a2⟩ := HF3.out _ hC'; go_simp; try exact ⟨rfl, rfl⟩)); go_simp; refine hK _ ?_; clear hK K)
  (refine ordQ_held (.pointer (some ⟨w.heap.size, 1, none⟩)) rfl rfl rfl rfl (fun W' hC' => ?_) (fun K hK => ?_); (focus (obtain ⟨a1, a2⟩ := HF3.out _ hC'; go_simp; try exact ⟨rfl, rfl⟩)); go_simp; refine hK _ ?_; clear hK K)
  (refine ordQ_held (.slice (some ⟨ob, 0, none⟩) N N) rfl rfl rfl rfl (fun W' hC' => ?_) (fun K hK => ?_); (focus (obtain ⟨a1, a2⟩ := HF3.out _ hC'; go_simp; try exact ⟨rfl, rfl⟩)); go_simp; refine hK _ ?_; clear hK K)
  (refine ordQ_held (I fr) rfl rfl rfl rfl (fun W' hC' => ?_) (fun K hK => ?_); (focus (obtain ⟨a1, a2⟩ := HF3.out _ hC'; go_simp; try exact ⟨rfl, rfl⟩)); go_simp; refine hK _ ?_; clear hK K)
  (refine ordQ_held (.pointer (some ⟨ob, fr, none⟩)) rfl rfl rfl rfl (fun W' hC' => ?_) (fun K hK => ?_); (focus (obtain ⟨a1, a2⟩ := HF3.out _ hC'; go_simp; try exact ⟨rfl, rfl⟩)); go_simp; refine hK _ ?_; clear hK K)
  (refine ordQ_held (rv fr) rfl rfl rfl rfl (fun W' hC' => ?_) (fun K hK => ?_); (focus (obtain ⟨a1, a2⟩ := HF3.out _ hC'; go_simp; try exact ⟨rfl, rfl⟩)); go_simp; refine hK _ ?_; clear hK K)
  (refine ordQ_li rfl rfl rfl (fun K hK => ?_); go_simp; refine hK _ ?_; clear hK K)
  refine ordQ_hv rfl rfl rfl (fun K hK => ?_)
  gi_wp2
  refine hK _ _ (fun _ => ((Frm.refl _ _ _).alloc (Nat.le_refl _) _).drew) ?_
  clear hK K
  refine ordQ_hv rfl rfl rfl (fun K hK => ?_)
  refine opIn_append_blk rfl _ _ _ 22 rfl 0 3 j0 (I 0) 1 8 Tryd.underlying22 hj0 hj1 hj2 hj3 rfl (by decide) _ (os fr).length ((os fr).map I) rfl hown3 ⟨w3.heap.size, 0, none⟩ 1 1 [I ars.length] rfl (by decide) rfl hcn3 (by simp [Value.oneCell']) (by unfold maxLen; omega) (by omega) (Nat.zero_le _) ?_
  intro v3 wa3 ho3 hg3 hb3
  refine hK _ _ (fun _ => ((Frm.refl _ _ _).alloc (Nat.le_refl _) _).drew.grown hg3 (by simp) (fun k hk => .inr hk)) ?_
  clear hK K
  have HDA3 := HD3.out.below (below1 w3 (.cells #[I ars.length] 3)).drew
  obtain ⟨⟨u3, hu3⟩, hfz3, hD3, hFr3, hBl3⟩ := HDA3.push hfr ho3 hg3 hb3
  obtain ⟨gv3, cv3, rfl⟩ : ∃ g cap, v3 = .slice (some ⟨g, 0, none⟩) ((os fr).length + 1) cap := by
    rcases own_formS ho3 with ⟨_, h7⟩ | ⟨g, cap, h7, h8, h9⟩
    · omega
    · exact ⟨g, cap, h7⟩
  have HDN := Lib.hid hD3
  have HFN := Lib.hid hFr3
  have HBN := Lib.hid hBl3
  clear hD3 hFr3 hBl3 ho3 hg3 hb3 hown3 hcn3 HDA3
  (refine ordQ_li rfl rfl rfl (fun K hK => ?_); go_simp; refine hK _ ?_; clear hK K)
  refine ordQ_hv rfl rfl rfl (fun K hK => ?_)
  gi_wp2
  refine hK _ _ (fun h => by cases h) ?_
  clear hK K
  refine ordQ_fin ?_
  obtain ⟨w4, hw4⟩ : ∃ y, wa3.setCell ⟨ob, fr, none⟩ (.slice (some ⟨gv3, 0, none⟩) ((os fr).length + 1) cv3) = y := ⟨_, rfl⟩
  rw [hw4] at HDN HFN ⊢
  have hzA : w3.heap.size < (w3.alloc (.cells #[I ars.length] 3)).drew.heap.size := by simp
  have HFw4 : Hid (Frm w.heap.size (DNb N av ob rv) w w4) := Lib.hid (by
    have h1 : Frm w.heap.size (DNb N av ob rv) w (w3.alloc (.cells #[I ars.length] 3)).drew := (HFR3.out.alloc (by have := HFR3.out.size; omega) _).drew
    refine h1.trans (HFN.out.mono (by have := h1.size; omega) (fun k hk hs => ?_))
    rcases HBK3.out k hs with h2 | h2
    · exact h2
    · omega)
  have HBXw4 : Hid (Box w4 w.heap.size [.slice G2 (ars.length + 2) c2, .slice (some ⟨ob, 0, none⟩) N N] ∧ Box w4 (w.heap.size + 1) [.slice none 0 0, .slice none 0 0]) := Lib.hid (by
    have hb : ∀ b, b = w.heap.size ∨ b = w.heap.size + 1 → ¬ DNb N (.slice G2 (ars.length + 2) c2) ob rv b := fun b hb hs => by
      rcases HBK3.out b hs with h2 | h2
      · have := HLT.out b h2; omega
      · omega
    have q1 := (HBX3.out.1.alloc (.cells #[I ars.length] 3)).drew
    have q2 := (HBX3.out.2.alloc (.cells #[I ars.length] 3)).drew
    exact ⟨q1.frm HFN.out q1.1 (hb _ (.inl rfl)), q2.frm HFN.out q2.1 (hb _ (.inr rfl))⟩)
  have HBKw4 : Hid (∀ g, DNb N (.slice G2 (ars.length + 2) c2) ob (updT rv fr (.slice (some ⟨gv3, 0, none⟩) ((os fr).length + 1) cv3)) g → DNb N av ob rv g ∨ w.heap.size + 2 ≤ g) := Lib.hid fun g hg => by
    rcases HBN.out g hg with h1 | h1
    · exact HBK3.out g h1
    · right
      have := HFR3.out.size
      have := HBX3.out.2.1
      omega
  obtain ⟨rv4, hrv4⟩ : ∃ y, updT rv fr (.slice (some ⟨gv3, 0, none⟩) ((os fr).length + 1) cv3) = y := ⟨_, rfl⟩
  obtain ⟨os4, hos4⟩ : ∃ y, push os fr ars.length = y := ⟨_, rfl⟩
  rw [hrv4] at HDN HBKw4
  rw [hos4] at HDN
  have hol4 : (os4 tt).length ≤ 100001 := by
    rw [← hos4]
    have := hol tt hto
    unfold push
    split
    · rw [List.length_append, List.length_singleton]; omega
    · omega
  have HD4 := HDN
  have HFR4 := HFw4
  have HBX4 := HBXw4
  have HBK4 := HBKw4
  have HOS := Lib.hid hos4
  obtain ⟨x0, -⟩ := HBX4.out.1.at_ 0 _ rfl
  obtain ⟨x1, -⟩ := HBX4.out.1.at_ 1 _ rfl
  have hwk : IntKind.i64.wrap ((ars.length : Int) + 1) = (ars.length : Int) + 1 := IntWalk.i64_in _ (by omega)
  clear HDN HFN HBN HFw4 HBXw4 HBKw4 hw4 hrv4 hos4 HD3 HFR3 HBX3 HBK3 HF3 hu3 hfz3
  go_upto_region 4 with (fail)
  have hr4 := HD4.out.row (x := tt) hto
  have HF4 : Hid (∀ W, Frm w4.heap.size (fun g => (rv4 tt).ownBlock = some g) w4 W → W.cell? ⟨w.heap.size, 1, none⟩ = some (.slice (some ⟨ob, 0, none⟩) N N) ∧ W.cell? ⟨ob, tt, none⟩ = some (rv4 tt)) := Lib.hid fun W hF => by
    have hz := (HBX4.out.1).1
    have hob := (HD4.out.out.lt _ rfl).2
    have hne : (rv4 tt).ownBlock ≠ some ob := fun e => by
      rcases own_ne (HD4.out.rows tt hto) HD4.out.out (by decide) with h1 | h1
      · rw [h1] at e; cases e
      · exact h1 e
    have hne2 : (rv4 tt).ownBlock ≠ some w.heap.size := fun e => by
      rcases HBK4.out _ (.inr (.inr ⟨tt, hto, e⟩)) with h1 | h1
      · have := HLT.out _ h1; omega
      · omega
    exact ⟨(hF.cell hz hne2).trans (HBX4.out.1.at_ 1 _ rfl).1, (hF.cell hob hne).trans hr4.1⟩
  have hcn4 : ∀ j u, ([I ((ars.length : Int) + 1)] : List Value)[j]? = some u → (w4.alloc (.cells #[I ((ars.length : Int) + 1)] 3)).cell? ((⟨w4.heap.size, 0, none⟩ : Addr).add j) = some u := cells_new w4 [I ((ars.length : Int) + 1)] 3
  have hown4 : ((w4.alloc (.cells #[I ((ars.length : Int) + 1)] 3)).drew).ownsRow 0 3 1 (rv4 tt) (os4 tt).length ((os4 tt).map I) := (((HD4.out.below (below1 w4 (.cells #[I ((ars.length : Int) + 1)] 3))).rows tt hto)).drew
  have hlen4 : (os4 tt).length ≤ 100001 := hol4
  clear hr4
  refine (wpIn_wide (n := 9)).1 ?_
  refine wpIn_region_plan (Plan.ons [0, 1, 2, 3, 4, 5, 6, 7, 8, 9, 10, 11, 12, 13] .fin) [0, 1, 2, 3, 4, 5, 6, 7] (fun W => Frm w4.heap.size (fun g => (rv4 tt).ownBlock = some g) w4 W) [13] rfl (by kernel_rfl) (by kernel_rfl) (fun _ d _ _ _ h => by cases d <;> exact h) (Frm.refl _ _ _).drew ?_
  (refine ordQ_held (.pointer (some ⟨w.heap.size, 1, none⟩)) rfl rfl rfl rfl (fun W' hC' => ?_) (fun K hK => ?_); (focus (obtain ⟨a1, a2⟩ := HF4.out _ hC'; go_simp; try exact ⟨rfl, rfl⟩)); go_simp; refine hK _ ?_; clear hK K)
  (refine ordQ_held (.slice (some ⟨ob, 0, none⟩) N N) rfl rfl rfl rfl (fun W' hC' => ?_) (fun K hK => ?_); (focus (obtain ⟨a1, a2⟩ := HF4.out _ hC'; go_simp; try exact ⟨rfl, rfl⟩)); go_simp; refine hK _ ?_; clear hK K)
  (refine ordQ_held (I tt) rfl rfl rfl rfl (fun W' hC' => ?_) (fun K hK => ?_); (focus (obtain ⟨a1, a2⟩ := HF4.out _ hC'; go_simp; try exact ⟨rfl, rfl⟩)); go_simp; refine hK _ ?_; clear hK K)
  (refine ordQ_held (.pointer (some ⟨w.heap.size, 1, none⟩)) rfl rfl rfl rfl (fun W' hC' => ?_) (fun K hK => ?_); (focus (obtain ⟨a1, a2⟩ := HF4.out _ hC'; go_simp; try exact ⟨rfl, rfl⟩)); go_simp; refine hK _ ?_; clear hK K)
  (refine ordQ_held (.slice (some ⟨ob, 0, none⟩) N N) rfl rfl rfl rfl (fun W' hC' => ?_) (fun K hK => ?_); (focus (obtain ⟨a1, a2⟩ := HF4.out _ hC'; go_simp; try exact ⟨rfl, rfl⟩)); go_simp; refine hK _ ?_; clear hK K)
  (refine ordQ_held (I tt) rfl rfl rfl rfl (fun W' hC' => ?_) (fun K hK => ?_); (focus (obtain ⟨a1, a2⟩ := HF4.out _ hC'; go_simp; try exact ⟨rfl, rfl⟩)); go_simp; refine hK _ ?_; clear hK K)
  (refine ordQ_held (.pointer (some ⟨ob, tt, none⟩)) rfl rfl rfl rfl (fun W' hC' => ?_) (fun K hK => ?_); (focus (obtain ⟨a1, a2⟩ := HF4.out _ hC'; go_simp; try exact ⟨rfl, rfl⟩)); go_simp; refine hK _ ?_; clear hK K)
  (refine ordQ_held (rv4 tt) rfl rfl rfl rfl (fun W' hC' => ?_) (fun K hK => ?_); (focus (obtain ⟨a1, a2⟩ := HF4.out _ hC'; go_simp; try exact ⟨rfl, rfl⟩)); go_simp; refine hK _ ?_; clear hK K)
  (refine ordQ_li rfl rfl rfl (fun K hK => ?_); go_simp; refine hK _ ?_; clear hK K)
  (refine ordQ_li rfl rfl rfl (fun K hK => ?_); go_simp; refine hK _ ?_; clear hK K)
  refine ordQ_hv rfl rfl rfl (fun K hK => ?_)
  gi_wp2
  refine hK _ _ (fun _ => ((Frm.refl _ _ _).alloc (Nat.le_refl _) _).drew) ?_
  clear hK K
  refine ordQ_hv rfl rfl rfl (fun K hK => ?_)
  refine opIn_append_blk rfl _ _ _ 22 rfl 0 3 j0 (I 0) 1 8 Tryd.underlying22 hj0 hj1 hj2 hj3 rfl (by decide) _ (os4 tt).length ((os4 tt).map I) rfl hown4 ⟨w4.heap.size, 0, none⟩ 1 1 [I ((ars.length : Int) + 1)] rfl (by decide) rfl hcn4 (by simp [Value.oneCell']) (by unfold maxLen; omega) (by omega) (Nat.zero_le _) ?_
  intro v4 wa4 ho4 hg4 hb4
  refine hK _ _ (fun _ => ((Frm.refl _ _ _).alloc (Nat.le_refl _) _).drew.grown hg4 (by simp) (fun k hk => .inr hk)) ?_
  clear hK K
  have HDA4 := HD4.out.below (below1 w4 (.cells #[I ((ars.length : Int) + 1)] 3)).drew
  obtain ⟨⟨u4, hu4⟩, hfz4, hD4, hFr4, hBl4⟩ := HDA4.push hto ho4 hg4 hb4
  obtain ⟨gv4, cv4, rfl⟩ : ∃ g cap, v4 = .slice (some ⟨g, 0, none⟩) ((os4 tt).length + 1) cap := by
    rcases own_formS ho4 with ⟨_, h7⟩ | ⟨g, cap, h7, h8, h9⟩
    · omega
    · exact ⟨g, cap, h7⟩
  have HDN := Lib.hid hD4
  have HFN := Lib.hid hFr4
  have HBN := Lib.hid hBl4
  clear hD4 hFr4 hBl4 ho4 hg4 hb4 hown4 hcn4 HDA4
  (refine ordQ_li rfl rfl rfl (fun K hK => ?_); go_simp; refine hK _ ?_; clear hK K)
  refine ordQ_hv rfl rfl rfl (fun K hK => ?_)
  gi_wp2
  refine hK _ _ (fun h => by cases h) ?_
  clear hK K
  refine ordQ_fin ?_
  obtain ⟨w5, hw5⟩ : ∃ y, wa4.setCell ⟨ob, tt, none⟩ (.slice (some ⟨gv4, 0, none⟩) ((os4 tt).length + 1) cv4) = y := ⟨_, rfl⟩
  rw [hw5] at HDN HFN ⊢
  have hzA : w4.heap.size < (w4.alloc (.cells #[I ((ars.length : Int) + 1)] 3)).drew.heap.size := by simp
  have HFw5 : Hid (Frm w.heap.size (DNb N av ob rv) w w5) := Lib.hid (by
    have h1 : Frm w.heap.size (DNb N av ob rv) w (w4.alloc (.cells #[I ((ars.length : Int) + 1)] 3)).drew := (HFR4.out.alloc (by have := HFR4.out.size; omega) _).drew
    refine h1.trans (HFN.out.mono (by have := h1.size; omega) (fun k hk hs => ?_))
    rcases HBK4.out k hs with h2 | h2
    · exact h2
    · omega)
  have HBXw5 : Hid (Box w5 w.heap.size [.slice G2 (ars.length + 2) c2, .slice (some ⟨ob, 0, none⟩) N N] ∧ Box w5 (w.heap.size + 1) [.slice none 0 0, .slice none 0 0]) := Lib.hid (by
    have hb : ∀ b, b = w.heap.size ∨ b = w.heap.size + 1 → ¬ DNb N (.slice G2 (ars.length + 2) c2) ob rv4 b := fun b hb hs => by
      rcases HBK4.out b hs with h2 | h2
      · have := HLT.out b h2; omega
      · omega
    have q1 := (HBX4.out.1.alloc (.cells #[I ((ars.length : Int) + 1)] 3)).drew
    have q2 := (HBX4.out.2.alloc (.cells #[I ((ars.length : Int) + 1)] 3)).drew
    exact ⟨q1.frm HFN.out q1.1 (hb _ (.inl rfl)), q2.frm HFN.out q2.1 (hb _ (.inr rfl))⟩)
  have HBKw5 : Hid (∀ g, DNb N (.slice G2 (ars.length + 2) c2) ob (updT rv4 tt (.slice (some ⟨gv4, 0, none⟩) ((os4 tt).length + 1) cv4)) g → DNb N av ob rv g ∨ w.heap.size + 2 ≤ g) := Lib.hid fun g hg => by
    rcases HBN.out g hg with h1 | h1
    · exact HBK4.out g h1
    · right
      have := HFR4.out.size
      have := HBX4.out.2.1
      omega
  obtain ⟨rv5, hrv5⟩ : ∃ y, updT rv4 tt (.slice (some ⟨gv4, 0, none⟩) ((os4 tt).length + 1) cv4) = y := ⟨_, rfl⟩
  rw [hrv5] at HDN HBKw5
  clear x0 x1 HD4 HFR4 HBX4 HBK4 HF4 hu4 hfz4 HFN HBN hw5 hrv5
  obtain ⟨x0, -⟩ := HBXw5.out.1.at_ 0 _ rfl
  obtain ⟨x1, -⟩ := HBXw5.out.1.at_ 1 _ rfl
  obtain ⟨y0, z0⟩ := HBXw5.out.2.at_ 0 _ rfl
  obtain ⟨y1, z1⟩ := HBXw5.out.2.at_ 1 _ rfl
  go_wp2_with (fail)
  have hbw := (HBXw5.out.2.set 0 (.slice G2 (ars.length + 2) c2)).set 1 (.slice (some ⟨ob, 0, none⟩) N N)
  have hzw : w.heap.size ≤ w5.heap.size := HFw5.out.size
  have hnb : ¬ DNb N (.slice G2 (ars.length + 2) c2) ob rv5 (w.heap.size + 1) := fun hs => by
    rcases HBKw5.out _ hs with h2 | h2
    · have := HLT.out _ h2; omega
    · omega
  have hFE : Frm w5.heap.size (fun x => x = w.heap.size + 1) w5 ((w5.setCell ⟨w.heap.size + 1, 0, none⟩ (.slice G2 (ars.length + 2) c2)).setCell ⟨w.heap.size + 1, 1, none⟩ (.slice (some ⟨ob, 0, none⟩) N N)) := ((Frm.refl _ (fun x => x = w.heap.size + 1) _).setCell (.inr rfl) _).setCell (.inr rfl) _
  obtain ⟨a0, -⟩ := hbw.at_ 0 _ rfl
  obtain ⟨a1, -⟩ := hbw.at_ 1 _ rfl
  have HDE := Lib.hid (HDN.out.frm hFE (fun g hg hs => by subst hs; exact hnb hg))
  have HFE : Hid (Frm w.heap.size (DNb N av ob rv) w ((w5.setCell ⟨w.heap.size + 1, 0, none⟩ (.slice G2 (ars.length + 2) c2)).setCell ⟨w.heap.size + 1, 1, none⟩ (.slice (some ⟨ob, 0, none⟩) N N))) := Lib.hid (HFw5.out.trans (hFE.mono hzw (fun k hk hs => by omega)))
  obtain ⟨wz, hwz⟩ : ∃ y, (w5.setCell ⟨w.heap.size + 1, 0, none⟩ (.slice G2 (ars.length + 2) c2)).setCell ⟨w.heap.size + 1, 1, none⟩ (.slice (some ⟨ob, 0, none⟩) N N) = y := ⟨_, rfl⟩
  rw [hwz] at a0 a1 HDE HFE ⊢
  clear hwz hbw hFE x0 x1 y0 y1 z0 z1
  refine bodyPost_ret (v := netV N (.slice G2 (ars.length + 2) c2) ob) ?_ rfl ?_
  · simp [results, Tryd.results67, go_sem, a0, a1]
  · rw [HAV.out]
    refine ⟨_, rv5, rfl, ?_, HFE.out, fun g hg => ?_⟩
    · rw [HOS.out]
      exact HDE.out
    · rcases HBKw5.out g hg with h1 | h1
      · exact .inl h1
      · right; omega
end Go.Proofs.YtomfnldlnoiloaaDoor

/- The document's network, plain: its arcs and numbers as they come; what lies in memory while it is made. -/
namespace Go.Proofs.YtomfnldlnoiloaaDoor
set_option linter.unusedVariables false
set_option linter.unusedSimpArgs false
open Go Go.RowKit Go.Maps

def encI (p : Stp) : Int := 2 * (p.1 : Int) + (if p.2 then 0 else 1)
/-- Node x's numbers. -/
def osL (L : List Arc3) : Nat → List Int := fun x => (outsL L x).map encI
/-- All arcs, each with its way back behind it, under a flow. -/
def arsL (L : List Arc3) (f : Nat → Int) : List Arc := (List.range L.length).flatMap fun i => [((frL L i : Int), (toL L i : Int), capL L i - f i), ((toL L i : Int), (frL L i : Int), f i)]
theorem flatMap_two {α : Type} (g : Nat → α × α) : ∀ n : Nat, ((List.range n).flatMap fun i => [(g i).1, (g i).2]).length = 2 * n
  | 0 => rfl
  | n + 1 => by rw [List.range_succ, List.flatMap_append, List.length_append, flatMap_two g n]; simp; omega
theorem arsL_len (L : List Arc3) (f : Nat → Int) : (arsL L f).length = 2 * L.length := flatMap_two (fun i => (((frL L i : Int), (toL L i : Int), capL L i - f i), ((toL L i : Int), (frL L i : Int), f i))) L.length
theorem flatMap_range {α : Type} {g h : Nat → List α} : ∀ {n : Nat}, (∀ i, i < n → g i = h i) → (List.range n).flatMap g = (List.range n).flatMap h
  | 0, _ => rfl
  | n + 1, e => by
    rw [List.range_succ, List.flatMap_append, List.flatMap_append, flatMap_range (g := g) (h := h) fun i hi => e i (by omega)]
    simp [e n (by omega)]
theorem frL_app {L : List Arc3} {a : Arc3} {i : Nat} (h : i < L.length) : frL (L ++ [a]) i = frL L i ∧ toL (L ++ [a]) i = toL L i ∧ capL (L ++ [a]) i = capL L i := by
  unfold frL toL capL
  simp [List.getD_eq_getElem?_getD, List.getElem?_append_left h]
theorem frL_last (L : List Arc3) (a : Arc3) : frL (L ++ [a]) L.length = a.1 ∧ toL (L ++ [a]) L.length = a.2.1 ∧ capL (L ++ [a]) L.length = a.2.2 := by
  unfold frL toL capL
  simp [List.getD_eq_getElem?_getD]
theorem arsL_snoc (L : List Arc3) (a : Arc3) : arsL (L ++ [a]) (fun _ => 0) = arsL L (fun _ => 0) ++ [((a.1 : Int), (a.2.1 : Int), a.2.2), ((a.2.1 : Int), (a.1 : Int), 0)] := by
  unfold arsL
  rw [List.length_append, List.length_singleton, List.range_succ, List.flatMap_append]
  congr 1
  · refine flatMap_range fun i hi => ?_
    obtain ⟨h1, h2, h3⟩ := frL_app (a := a) hi
    rw [h1, h2, h3]
  · obtain ⟨h1, h2, h3⟩ := frL_last L a
    simp [h1, h2, h3]
theorem osL_snoc (L : List Arc3) (a : Arc3) : osL (L ++ [a]) = push (push (osL L) a.1 ((arsL L (fun _ => 0)).length : Int)) a.2.1 (((arsL L (fun _ => 0)).length : Int) + 1) := by
  funext x
  unfold osL push
  rw [outsL_snoc, arsL_len, List.map_append, List.map_append]
  have e1 : encI (L.length, true) = ((2 * L.length : Nat) : Int) := by simp [encI]
  have e2 : encI (L.length, false) = ((2 * L.length : Nat) : Int) + 1 := by simp [encI]
  by_cases h1 : a.1 = x <;> by_cases h2 : a.2.1 = x
  · rw [if_pos h1, if_pos h2, if_pos h2.symm, if_pos h1.symm]
    simp [e1, e2]
  · rw [if_pos h1, if_neg h2, if_neg (fun e => h2 e.symm), if_pos h1.symm]
    simp [e1]
  · rw [if_neg h1, if_pos h2, if_pos h2.symm, if_neg (fun e => h1 e.symm)]
    simp [e2]
  · rw [if_neg h1, if_neg h2, if_neg (fun e => h2 e.symm), if_neg (fun e => h1 e.symm)]
    simp
theorem osL_len (L : List Arc3) (x : Nat) : (osL L x).length ≤ 2 * L.length := by
  unfold osL
  rw [List.length_map]
  exact outsL_lt
/-! The arcs as they come. -/
def dPl (v : Vis) (m t q : Nat) : List Arc3 := (List.range q).flatMap fun q => (srcN v m, nd v.n q t, arrive v q t) :: if t < m then [waitA v t q] else []
def dT (v : Vis) (m t : Nat) : List Arc3 := (List.range t).flatMap fun t => dPl v m t v.n ++ trailsA v m t
def dQ (v : Vis) (m t q : Nat) : List Arc3 := dT v m t ++ dPl v m t q
def dR (v : Vis) (m t j : Nat) : List Arc3 := dT v m t ++ (dPl v m t v.n ++ trailsJ v m t j)
theorem dT_zero (v : Vis) (m : Nat) : dT v m 0 = [] := rfl
theorem dQ_zero (v : Vis) (m t : Nat) : dQ v m t 0 = dT v m t := by simp [dQ, dPl]
theorem dQ_succ (v : Vis) (m t q : Nat) : dQ v m t (q + 1) = dQ v m t q ++ ((srcN v m, nd v.n q t, arrive v q t) :: if t < m then [waitA v t q] else []) := by
  unfold dQ dPl
  rw [List.range_succ, List.flatMap_append, List.append_assoc]
  simp
theorem dR_zero (v : Vis) (m t : Nat) : dR v m t 0 = dQ v m t v.n := by simp [dR, dQ, trailsJ]
theorem dR_succ (v : Vis) (m t : Nat) {j : Nat} (hj : j < v.tr.length) : dR v m t (j + 1) = dR v m t j ++ (if t + v.tr[j].2.2.1.toNat ≤ m then [(nd v.n v.tr[j].1.toNat t, nd v.n v.tr[j].2.1.toNat (t + v.tr[j].2.2.1.toNat), v.tr[j].2.2.2)] else []) := by
  unfold dR trailsJ
  rw [List.take_succ_eq_append_getElem hj, List.flatMap_append]
  simp
theorem dT_succ (v : Vis) (m t : Nat) : dT v m (t + 1) = dR v m t v.tr.length := by
  have e : trailsJ v m t v.tr.length = trailsA v m t := by unfold trailsJ trailsA; rw [List.take_length]
  unfold dT dR
  rw [e, List.range_succ, List.flatMap_append, List.flatMap_cons, List.flatMap_nil, List.append_nil]
  rfl
theorem netD_eq (v : Vis) (p m : Nat) : netD v p m = dT v m (m + 1) ++ [lastA v p m] := rfl
theorem dPl_len (v : Vis) (m t : Nat) : ∀ q, (dPl v m t q).length ≤ 2 * q
  | 0 => Nat.le_refl _
  | q + 1 => by
    unfold dPl
    rw [List.range_succ, List.flatMap_append, List.length_append]
    have := dPl_len v m t q
    unfold dPl at this
    by_cases h : t < m
    · simp [h] at this ⊢; omega
    · simp [h] at this ⊢; omega
theorem trails_len2 {v : Vis} (hv : VisOk v) (m t : Nat) : (trailsA v m t).length ≤ 16 := by
  have h := trails_len v m t v.tr.length
  have := hv.tl
  unfold trailsJ at h
  rw [List.take_length] at h
  unfold trailsA
  omega
theorem dT_len {v : Vis} (hv : VisOk v) (m : Nat) : ∀ t, (dT v m t).length ≤ 32 * t
  | 0 => Nat.le_refl _
  | t + 1 => by
    unfold dT
    rw [List.range_succ, List.flatMap_append, List.length_append]
    have h1 := dT_len hv m t
    unfold dT at h1
    have h2 := dPl_len v m t v.n
    have h3 := trails_len2 hv m t
    have := hv.n
    rw [List.flatMap_cons, List.flatMap_nil, List.append_nil, List.length_append]
    omega
theorem dQ_len {v : Vis} (hv : VisOk v) (m t q : Nat) : (dQ v m t q).length ≤ 32 * t + 2 * q := by
  unfold dQ
  rw [List.length_append]
  have := dT_len hv m t
  have := dPl_len v m t q
  omega
theorem dR_len {v : Vis} (hv : VisOk v) (m t j : Nat) : (dR v m t j).length ≤ 32 * t + 16 + j := by
  unfold dR
  rw [List.length_append, List.length_append]
  have := dT_len hv m t
  have := dPl_len v m t v.n
  have := trails_len v m t j
  have := hv.n
  omega
/-- What lies in memory while the network is made. -/
structure NW (w : World) (vs : List Value) (g9 ob N : Nat) (L : List Arc3) (av : Value) (rv : Nat → Value) (W : World) : Prop where
  dn : DN N (osL L) (arsL L (fun _ => 0)) av ob rv W
  nb : Box W g9 [av, .slice (some ⟨ob, 0, none⟩) N N]
  bk : ∀ g, DNb N av ob rv g → w.heap.size + 2 ≤ g ∧ g ≠ g9
  lo : Below w.heap.size w W
  vb : Box W w.heap.size vs
  rb : Box W (w.heap.size + 1) [.slice none 0 0, .slice none 0 0]
  g9 : w.heap.size + 2 ≤ g9
section
variable {w : World} {vs : List Value} {g9 ob N : Nat} {L : List Arc3} {av : Value} {rv : Nat → Value} {W W' W1 W2 : World}
theorem NW.below (h : NW w vs g9 ob N L av rv W) (hB : Below W.heap.size W W') : NW w vs g9 ob N L av rv W' :=
  ⟨h.dn.below hB, h.nb.call hB, h.bk, h.lo.trans (hB.mono h.lo.size), h.vb.call hB, h.rb.call hB, h.g9⟩
/-- An arc more. -/
theorem NW.add (h : NW w vs g9 ob N L av rv W) (a : Arc3) {av' : Value} {rv' : Nat → Value} (hD : DN N (push (push (osL L) a.1 ((arsL L (fun _ => 0)).length : Int)) a.2.1 (((arsL L (fun _ => 0)).length : Int) + 1)) (arsL L (fun _ => 0) ++ [((a.1 : Int), (a.2.1 : Int), a.2.2), ((a.2.1 : Int), (a.1 : Int), 0)]) av' ob rv' W')
    (hF : Frm W.heap.size (DNb N av ob rv) W W') (hb : ∀ g, DNb N av' ob rv' g → DNb N av ob rv g ∨ W.heap.size ≤ g) :
    (∃ A c, av' = .slice A (2 * L.length + 2) c) ∧ Box W' g9 [av, .slice (some ⟨ob, 0, none⟩) N N] ∧ NW w vs g9 ob N (L ++ [a]) av' rv' ((W'.setCell ⟨g9, 0, none⟩ av').setCell ⟨g9, 1, none⟩ (.slice (some ⟨ob, 0, none⟩) N N)) := by
  rw [← osL_snoc, ← arsL_snoc] at hD
  have hnb := h.nb.frm hF h.nb.1 (fun hs => (h.bk _ hs).2 rfl)
  have hz := h.nb.1
  have h9 := h.g9
  have hbk' : ∀ g, DNb N av' ob rv' g → w.heap.size + 2 ≤ g ∧ g ≠ g9 := fun g hg => by
    rcases hb g hg with h1 | h1
    · exact h.bk g h1
    · exact ⟨by omega, by omega⟩
  refine ⟨?_, hnb, ?_⟩
  · rcases own_formS hD.arcs with ⟨h1, h2⟩ | ⟨g, cap, h1, _⟩
    · rw [arsL_len, List.length_append, List.length_singleton] at h2; omega
    · rw [arsL_len, List.length_append, List.length_singleton] at h1
      exact ⟨_, cap, h1⟩
  · have hF2 : Frm W'.heap.size (fun x => x = g9) W' ((W'.setCell ⟨g9, 0, none⟩ av').setCell ⟨g9, 1, none⟩ (.slice (some ⟨ob, 0, none⟩) N N)) := ((Frm.refl _ (fun x => x = g9) _).setCell (.inr rfl) _).setCell (.inr rfl) _
    have hvb := h.vb.frm hF h.vb.1 (fun hs => by have := (h.bk _ hs).1; omega)
    have hrb := h.rb.frm hF h.rb.1 (fun hs => by have := (h.bk _ hs).1; omega)
    have hlo : Below w.heap.size w W' := h.lo.trans (hF.below h.lo.size (fun k hk hs => by have := (h.bk _ hs).1; omega))
    exact ⟨hD.frm hF2 (fun g hg hs => (hbk' g hg).2 hs), (hnb.set 0 av').set 1 _, hbk', hlo.trans (hF2.below hlo.size (fun k hk hs => by omega)), hvb.frm hF2 hvb.1 (fun hs => by omega), hrb.frm hF2 hrb.1 (fun hs => by omega), h9⟩
end
/-- Rows of nothing. -/
def zO (n : Nat) : Array Value := (List.replicate n (Value.slice none 0 0)).toArray
theorem make74z (n : Nat) (hn : n ≤ 1000000) (W : World) : (Instr.makeSlice 74 (I n) (I n)).run Tryd.prog W = .ok (.slice (some ⟨W.heap.size, 0, none⟩) n n) (W.alloc (.cells (zO n) 22)) := by
  obtain ⟨i, h1, h2, h3, h4⟩ := info_parts info22
  have h := run_make (P := Tryd.prog) W 74 22 i (.slice none 0 0) Tryd.underlying74 h1 h2 .i64 .i64 n n (by omega) (Int.le_refl _) (by rw [h4]; omega) (by omega)
  rw [h3] at h
  rw [h]
  show Result.ok _ (W.alloc (.cells (madeCells #[.slice none 0 0] (n * 1)) 22)) = _
  rw [made_of]
  rfl
theorem DN.start (N : Nat) (hN : N ≤ 1000000) (W : World) : DN N (osL []) (arsL [] (fun _ => 0)) (.slice none 0 0) W.heap.size (fun _ => .slice none 0 0) (W.alloc (.cells (zO N) 22)) := by
  refine ⟨World.ownsRow_nil _ _ _ _, ?_, fun x _ => World.ownsRow_nil _ _ _ _, fun _ _ _ _ _ => .inl rfl⟩
  have h := World.ownsRow_lit (base := 0) (e := 22) (size := 1) W (zO N) N (Nat.zero_le _) (by unfold maxLen; omega) (by simp [zO])
  have e : (zO N).toList = (List.range N).map fun _ => Value.slice none 0 0 := by
    unfold zO
    exact (List.map_const'.trans (by rw [List.length_range])).symm
  rw [e] at h
  exact h
end Go.Proofs.YtomfnldlnoiloaaDoor
