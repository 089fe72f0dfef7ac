/- Ahead of fill: the search as a caller meets it; marks of ended loops; the map of arcs by which nodes are reached; a way's turn of the arcs. -/
import Derived.Test.YtomfnldlnoiloaaDoorS5
namespace Go.Proofs.YtomfnldlnoiloaaDoor
set_option linter.unusedVariables false
set_option linter.unusedSimpArgs false
open Go Go.RowKit Go.Maps

/-- The end of a body that holds marks and does not panic. -/
def postM (F : Fence) (n : Nat) (P : Program) (fn : Func) (R : Ending → World → Prop) : Exit → Act → World → Prop
  | .panic _, _, _ => False
  | e, a, w => bodyPostM F n P fn R e a w
theorem postM_of {F : Fence} {n : Nat} {P : Program} {fn : Func} {R : Ending → World → Prop} : ∀ e a w, postM F n P fn R e a w → bodyPostM F n P fn R e a w
  | .normal, _, _, h => h
  | .ret, _, _, h => h
  | .exit _, _, _, h => h
  | .goto _, _, _, h => h
  | .outgrown, _, _, h => h
  | .panic _, _, _, h => h.elim
def markOf (D : Nat) : Deferred := { target := .collected D, args := #[] }
def Marks (B : Nat) (Ds : List Nat) (W : World) : Prop := Ds.Nodup ∧ ∀ D ∈ Ds, B ≤ D ∧ W.heap[D]? = some (.deferred (some []))
theorem leavesM_marks {F : Fence} {n : Nat} {P : Program} {fn : Func} {tmps : Array Value} {R : Ending → World → Prop} {B : Nat} : ∀ (Ds : List Nat) (W : World), Marks B Ds W →
    (∀ W', Below B W W' → (∀ k, k ∉ Ds → W'.heap[k]? = W.heap[k]?) → LeavesIn F n P fn tmps R [] .returning W') → LeavesInM F n P fn tmps R (Ds.map markOf) .returning W
  | [], W, _, h => h W (Below.refl _ _) (fun _ _ => rfl)
  | D :: Ds, W, hM, h => by
    obtain ⟨hn, hD⟩ := hM
    rw [List.nodup_cons] at hn
    have h1 := hD D (by simp)
    refine ⟨by simp, .inl ⟨D, _, rfl, run_takeDeferred h1.2, ?_⟩⟩
    refine leavesM_marks Ds _ ⟨hn.2, fun D' hD' => ⟨(hD D' (by simp [hD'])).1, ?_⟩⟩ ?_
    · rw [World.putObj_heap_other (by rintro rfl; exact hn.1 hD')]
      exact (hD D' (by simp [hD'])).2
    · intro W' hB' hk
      have hb1 : Below B W (W.putObj D (.deferred none)) := (Below.refl B W).grown (grownBy_putObj' W D _) (by have := (Array.getElem?_eq_some_iff.1 h1.2).1; omega) (fun k e => by cases e; exact h1.1)
      refine h W' (hb1.trans hB') fun k hk' => ?_
      rw [List.mem_cons, not_or] at hk'
      rw [hk k hk'.2, World.putObj_heap_other (by omega)]
theorem Marks.keep {B : Nat} {Ds : List Nat} {W W' : World} (h : Marks B Ds W) (hk : ∀ D ∈ Ds, W'.heap[D]? = W.heap[D]?) : Marks B Ds W' := ⟨h.1, fun D hD => ⟨(h.2 D hD).1, (hk D hD).trans (h.2 D hD).2⟩⟩
theorem Marks.lt {B : Nat} {Ds : List Nat} {W : World} (h : Marks B Ds W) : ∀ D ∈ Ds, D < W.heap.size := fun D hD => (Array.getElem?_eq_some_iff.1 (h.2 D hD).2).1
theorem Marks.call {B : Nat} {Ds : List Nat} {W W' : World} (h : Marks B Ds W) (hB : Below W.heap.size W W') : Marks B Ds W' := h.keep fun D hD => hB.block D (h.lt D hD)
/-- A store into a cell leaves them as they are. -/
theorem Marks.setCell {B : Nat} {Ds : List Nat} {W : World} (h : Marks B Ds W) {p : Addr} {v : Value} (hc : W.cell? p = some v) (u : Value) : Marks B Ds (W.setCell p u) := h.keep fun D hD => Below.heap_setCell W p u D fun e => by
  subst e
  unfold World.cell? at hc
  rw [(h.2 _ hD).2] at hc
  cases hc
section
variable {k : Kt} {L : List Arc3} {d : Nt} {fin : List Stp}
/-- By which arc a node was reached, as the map tells. -/
def byF (L : List Arc3) (d : Nt) (fin : List Stp) (pre : List (Fin fin.length)) (x : Nat) : Option Value := (pre.reverse.find? fun y => stT L fin[y] == x).map fun y => ptr (d.blk fin[y])
theorem byF_nil (x : Nat) : byF L d fin [] x = none := rfl
theorem byF_snoc (pre : List (Fin fin.length)) (y : Fin fin.length) (x : Nat) : byF L d fin (pre ++ [y]) x = if stT L fin[y] = x then some (ptr (d.blk fin[y])) else byF L d fin pre x := by
  unfold byF
  rw [List.reverse_append, List.reverse_singleton, List.singleton_append, List.find?_cons]
  by_cases e : stT L fin[y] = x
  · rw [if_pos e, beq_iff_eq.2 e]
    rfl
  · rw [if_neg e, beq_eq_false_iff_ne.2 e]
theorem byF_upto (hn : (fin.map (stT L)).Nodup) : ∀ (j : Nat), j ≤ fin.length → (∀ i (hi : i < j) (hl : i < fin.length), byF L d fin (uptoF fin.length j) (stT L fin[i]) = some (ptr (d.blk fin[i]))) ∧ ∀ x, x ∉ (fin.take j).map (stT L) → byF L d fin (uptoF fin.length j) x = none
  | 0, _ => ⟨fun i hi => by omega, fun x _ => rfl⟩
  | j + 1, hj => by
    obtain ⟨h1, h2⟩ := byF_upto hn j (by omega)
    have hp := List.pairwise_iff_getElem.1 hn
    rw [uptoF_succ (show j < fin.length by omega)]
    refine ⟨fun i hi hl => ?_, fun x hx => ?_⟩
    · rw [byF_snoc]
      by_cases e : i = j
      · subst e
        simp
      · have hne := hp i j (by simpa using hl) (by simp; omega) (by omega)
        simp only [List.getElem_map] at hne
        rw [if_neg (fun e2 => hne e2.symm)]
        exact h1 i (by omega) hl
    · rw [List.take_succ_eq_append_getElem (by omega), List.map_append, List.mem_append, not_or] at hx
      rw [byF_snoc, if_neg (fun e => hx.2 (by simp; exact e.symm))]
      exact h2 x hx.1
end
/-- The map of arcs behind some of the search's yields. -/
def ByAt (k : Kt) (L : List Arc3) (d : Nt) (fin : List Stp) (N bm : Nat) (pre : List (Fin fin.length)) (W : World) : Prop := ∃ n fB, MapAt Tryd.prog 89 W bm n fB ∧ ∀ x, x < N → fB (k.v x) = byF L d fin pre x
theorem zero99 (w : World) : (zeroValue 99).run Tryd.prog w = .ok (.pointer none) w := by
  have h : (Tryd.prog.info? 99).bind (·.zero) = some (.pointer none) := by kernel_rfl
  simp [zeroValue, typeInfo]
  cases hi : Tryd.prog.info? 99 with
  | none => rw [hi] at h; cases h
  | some i => rw [hi] at h; simp at h; simp [h]
theorem ByAt.lookup {k : Kt} {L : List Arc3} {d : Nt} {fin : List Stp} {N bm : Nat} {pre : List (Fin fin.length)} {W : World} (h : ByAt k L d fin N bm pre W) (hk : KtOk k N) {x : Nat} (hx : x < N) : (Instr.lookup 98 (.map (some bm)) (k.v x) false).run Tryd.prog W = .ok ((byF L d fin pre x).getD (.pointer none)) W := by
  obtain ⟨n, fB, h1, h2⟩ := h
  rw [h1.lookup (e := 99) (t := 98) lawK Tryd.underlying98 (zero99 W) (hk.key x hx), h2 x hx]
theorem ByAt.heap {k : Kt} {L : List Arc3} {d : Nt} {fin : List Stp} {N bm : Nat} {pre : List (Fin fin.length)} {W W' : World} (h : ByAt k L d fin N bm pre W) (hb : W'.heap[bm]? = W.heap[bm]?) : ByAt k L d fin N bm pre W' := by
  obtain ⟨n, fB, h1, h2⟩ := h
  exact ⟨n, fB, h1.heap hb, h2⟩
theorem ByAt.lt {k : Kt} {L : List Arc3} {d : Nt} {fin : List Stp} {N bm : Nat} {pre : List (Fin fin.length)} {W : World} (h : ByAt k L d fin N bm pre W) : bm < W.heap.size := by
  obtain ⟨n, fB, h1, h2⟩ := h
  exact h1.lt
theorem ByAt.snoc {k : Kt} {L : List Arc3} {d : Nt} {fin : List Stp} {N bm : Nat} {pre : List (Fin fin.length)} {W' : World} (hk : KtOk k N) {y : Fin fin.length} (hy : stT L fin[y] < N) {n : Nat} {fB : Value → Option Value} (h2 : ∀ x, x < N → fB (k.v x) = byF L d fin pre x) (hm : MapAt Tryd.prog 89 W' bm n (putF fB (k.v (stT L fin[y])) (ptr (d.blk fin[y])))) : ByAt k L d fin N bm (pre ++ [y]) W' := by
  refine ⟨n, _, hm, fun x hx => ?_⟩
  rw [byF_snoc]
  by_cases e : stT L fin[y] = x
  · rw [if_pos e, e, putF_same]
  · rw [if_neg e, putF_other (fun e2 => e (hk.inj _ _ hx hy e2).symm)]
    exact h2 x hx
/-- The search, as a caller's loop meets it. -/
theorem reach_turns (n₀ base top N : Nat) (X : Nat → Prop) (k : Kt) (L : List Arc3) (f : Nat → Int) (d : Nt) (s Bn : Nat) (hNb : N ≤ 1000) (w : World) (hz : n₀ ≤ w.heap.size) (hE : RcEnv n₀ X base top N k L f d s Bn w) :
    SeqTurns okI Fence.wide 8 Tryd.prog 55 #[ptr Bn] (encR k L d (bfsL L f s N)) (KeepE n₀ X) (fun ys => ys = List.finRange (bfsL L f s N).length) (fun pre => ∃ j, j < (bfsL L f s N).length ∧ pre = uptoF _ (j + 1)) (bfsL L f s N).length w := fun l J Jx W hW hJ _ hY h0 =>
  reach55_in Fence.wide 8 trivial rfl (by decide) n₀ base top N X k L f d s Bn l hNb J Jx W (hE.move ⟨hW.size, fun g hg _ => hW.block g (by omega)⟩) (by have := hW.size; omega) hY hJ h0
set_option maxRecDepth 100000 in
theorem reach43 (b : Nat) (w : World) : Calls Tryd.prog 43 #[.map (some b)] w fun e w' => e = .returned (.func (.func 55) #[] #[ptr w.heap.size]) ∧ w' = w.alloc (.cells #[.map (some b)] 77) := by
  go_enter Tryd.func43, Tryd.ntmps43
  go_wp2
  go_ret
  exact ⟨rfl, rfl⟩
/-- What is left on each arc when c more goes along one step. -/
theorem room_upd {L : List Arc3} {f : Nat → Int} {c : Int} {p : Stp} (q : Stp) : roomL L (upd c f p) q = if q = p then roomL L f p - c else if q = flipS p then roomL L f q + c else roomL L f q := by
  obtain ⟨i, b⟩ := p
  obtain ⟨j, e⟩ := q
  unfold roomL roomS upd flipS
  by_cases hj : j = i
  · subst hj
    cases b <;> cases e <;> simp <;> omega
  · simp [hj]
theorem flip_ne (p : Stp) : flipS p ≠ p := fun e => by
  obtain ⟨i, b⟩ := p
  cases b <;> simp [flipS] at e
theorem flip_flip (p : Stp) : flipS (flipS p) = p := by simp [flipS]
/-- .. in memory. -/
theorem NetAt.turn {base top N : Nat} {k : Kt} {L : List Arc3} {f : Nat → Int} {d : Nt} {w : World} (h : NetAt base top N L.length k (stT L) (outsL L) (roomL L f) d w) {p : Stp} (hp : p.1 < L.length) (c : Int) :
    NetAt base top N L.length k (stT L) (outsL L) (roomL L (upd c f p)) d ((w.setCell ⟨d.blk p, 3, none⟩ (I (roomL L f p - c))).setCell ⟨d.blk (flipS p), 3, none⟩ (I (roomL L f (flipS p) + c))) := by
  refine ((h.setLeft hp _).setLeft (p := flipS p) hp _).congr (fun _ _ => rfl) (fun _ _ => rfl) fun q _ => ?_
  rw [room_upd]
  by_cases e : q = p
  · subst e
    rw [if_pos rfl, if_neg (fun e => flip_ne q e.symm), if_pos rfl]
  · rw [if_neg e, if_neg e]
    by_cases e2 : q = flipS p
    · rw [if_pos e2, if_pos e2, e2]
    · rw [if_neg e2, if_neg e2]
/-- A flow's arcs behind some of a way's steps are near what they were. -/
theorem upd_near {c : Int} {f : Nat → Int} {l : List Stp} (hn : (l.map (·.1)).Nodup) (hc : 0 ≤ c) (j i : Nat) : f i - c ≤ (l.take j).foldl (upd c) f i ∧ (l.take j).foldl (upd c) f i ≤ f i + c := by
  have hn2 : ((l.take j).map (·.1)).Nodup := by
    rw [List.map_take]
    exact hn.sublist (List.take_sublist _ _)
  obtain ⟨h1, h2, h3⟩ := way_at (c := c) (j := i) (f := f) hn2
  by_cases e1 : (i, true) ∈ l.take j
  · rw [h2 e1]; omega
  · by_cases e2 : (i, false) ∈ l.take j
    · rw [h3 e2]; omega
    · rw [h1 fun b hb => by cases b <;> contradiction]; omega
end Go.Proofs.YtomfnldlnoiloaaDoor
