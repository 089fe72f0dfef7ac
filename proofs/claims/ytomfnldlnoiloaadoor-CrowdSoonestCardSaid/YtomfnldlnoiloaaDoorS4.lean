/- The search as an iterator: what it and its rounds keep. -/
import Derived.Test.YtomfnldlnoiloaaDoorS3
import Derived.Shelf.Abstract
import Derived.OwnWalkIn
import Derived.TacticsInMore
import Derived.LoopNIn
import Derived.LoopIn
import Derived.Sort.LoopGhostIn
namespace Go.Proofs.YtomfnldlnoiloaaDoor
set_option linter.unusedVariables false
set_option linter.unusedSimpArgs false
open Go Go.RowKit Go.Maps

def uptoF (N k : Nat) : List (Fin N) := (List.finRange N).take k
theorem uptoF_len {N k : Nat} (h : k ≤ N) : (uptoF N k).length = k := by simp [uptoF]; omega
theorem uptoF_succ {N k : Nat} (h : k < N) : uptoF N (k + 1) = uptoF N k ++ [⟨k, h⟩] := by
  unfold uptoF
  rw [List.take_succ_eq_append_getElem (by simpa using h)]
  simp
theorem uptoF_all (N : Nat) : uptoF N N = List.finRange N := by
  unfold uptoF
  rw [List.take_of_length_le (by simp)]
/-- What the iterator turns: maps, and rows of knots. -/
def okI : Obj → Bool
  | .map .. => true
  | .cells _ e _ => e == 89
  | _ => false
theorem okI_no : ∀ o, okI o = true → (∀ r, o ≠ .loop r) ∧ ∀ d, o ≠ .deferred d := fun o h => ⟨fun r e => (by subst e; cases h), fun d e => (by subst e; cases h)⟩
/-- What the loop's book-keeping and its body turn: rows of stands. -/
def okB (o : Obj) : Bool := match o with
  | .cells _ e _ => e == 46
  | o => !o.isWalk
structure KeepE (n₀ : Nat) (X : Nat → Prop) (W W' : World) : Prop where
  size : W.heap.size ≤ W'.heap.size
  old : ∀ g, g < n₀ → ¬ X g → W'.heap[g]? = W.heap[g]?
  new : ∀ g o, n₀ ≤ g → W.heap[g]? = some o → okB o = false → W'.heap[g]? = some o
section
variable {n₀ : Nat} {X : Nat → Prop} {W W' W'' w : World}
theorem keepE_t {A B C : World} (h : KeepE n₀ X A B) (k : KeepE n₀ X B C) : KeepE n₀ X A C :=
  ⟨Nat.le_trans h.size k.size, fun g h1 h2 => (k.old g h1 h2).trans (h.old g h1 h2), fun g o h1 h2 h3 => k.new g o h1 (h.new g o h1 h2 h3) h3⟩
theorem keepE_b (hn : n₀ ≤ w.heap.size) (W : World) (l : Nat) (o o' : Obj) (hl : w.heap.size ≤ l) (h : W.heap[l]? = some o) (hc : o.isCells = false) (hw : o.isWalk = false) : KeepE n₀ X W (W.putObj l o') := by
  refine ⟨by simp, fun g h1 _ => World.putObj_heap_other (by omega), fun g o2 h1 h2 h3 => ?_⟩
  by_cases e : g = l
  · subst e
    rw [h] at h2
    cases h2
    cases o with
    | cells c t f => cases hc
    | _ => simp_all [okB]
  · exact (World.putObj_heap_other e).trans h2
theorem KeepE.refl (W : World) : KeepE n₀ X W W := ⟨Nat.le_refl _, fun _ _ _ => rfl, fun _ _ _ h _ => h⟩
theorem KeepE.grown {row : Option Nat} (hg : W.grownBy W' row) (hn : n₀ ≤ W.heap.size) (hr : ∀ r, row = some r → (r < n₀ ∧ X r) ∨ (n₀ ≤ r ∧ ∃ o : Obj, W.heap[r]? = some o ∧ okB o = true)) : KeepE n₀ X W W' := by
  refine ⟨hg.size, fun g h1 h2 => hg.block g (by omega) fun e => ?_, fun g o h1 h2 h3 => (hg.block g (Array.getElem?_eq_some_iff.1 h2).1 fun e => ?_).trans h2⟩
  · rcases hr g e.symm with h | h
    · exact h2 h.2
    · omega
  · rcases hr g e.symm with h | ⟨_, o', h4, h5⟩
    · omega
    · rw [h2] at h4
      cases h4
      rw [h3] at h5
      cases h5
theorem KeepE.alloc (hn : n₀ ≤ W.heap.size) (o : Obj) : KeepE n₀ X W (W.alloc o) := KeepE.grown (World.grownBy_alloc W o none) hn (fun r e => by cases e)
/-- The part of memory that is older than the search. -/
structure FrX (n₀ : Nat) (X : Nat → Prop) (W W' : World) : Prop where
  size : W.heap.size ≤ W'.heap.size
  old : ∀ g, g < n₀ → ¬ X g → W'.heap[g]? = W.heap[g]?
theorem FrX.refl (W : World) : FrX n₀ X W W := ⟨Nat.le_refl _, fun _ _ _ => rfl⟩
theorem FrX.keep (h : FrX n₀ X W W') (k : KeepE n₀ X W' W'') : FrX n₀ X W W'' := ⟨Nat.le_trans h.size k.size, fun g h1 h2 => (k.old g h1 h2).trans (h.old g h1 h2)⟩
theorem FrX.grown {row : Option Nat} (h : FrX n₀ X W W') (hg : W'.grownBy W'' row) (hn : n₀ ≤ W'.heap.size) (hr : ∀ r, row = some r → n₀ ≤ r) : FrX n₀ X W W'' :=
  ⟨Nat.le_trans h.size hg.size, fun g h1 h2 => (hg.block g (by omega) fun e => by have := hr g e.symm; omega).trans (h.old g h1 h2)⟩
end
structure RcEnv (n₀ : Nat) (X : Nat → Prop) (base top N : Nat) (k : Kt) (L : List Arc3) (f : Nat → Int) (d : Nt) (s Bn : Nat) (W : World) : Prop where
  net : NetAt base top N L.length k (stT L) (outsL L) (roomL L f) d W
  ok : NetOk L N s
  kok : KtOk k N
  src : k.a s = 0 ∧ k.b s = 0 ∧ k.c s = 1
  glob : GlobOk W
  bn : W.cell? ⟨Bn, 0, none⟩ = some (.map (some d.b))
  x : ∀ g, base ≤ g → g < top → ¬ X g
  x0 : ¬ X 0 ∧ ¬ X 1 ∧ ¬ X Bn
  tn : top ≤ n₀ ∧ Bn < n₀ ∧ 2 ≤ n₀
  len : L.length ≤ 4000
section
variable {n₀ base top N s Bn : Nat} {X : Nat → Prop} {k : Kt} {L : List Arc3} {f : Nat → Int} {d : Nt} {W W' : World}
theorem RcEnv.move (h : RcEnv n₀ X base top N k L f d s Bn W) (hF : FrX n₀ X W W') : RcEnv n₀ X base top N k L f d s Bn W' := by
  have h2 := h.tn
  have hc : ∀ b o, b < n₀ → ¬ X b → W'.cell? ⟨b, o, none⟩ = W.cell? ⟨b, o, none⟩ := fun b o hb hx => World.cell?_of_block (hF.old b hb hx)
  refine { h with net := h.net.keep (fun g h3 h4 => hF.old g (by omega) (h.x g h3 h4)) hF.size, glob := ⟨Nat.le_trans h.glob.z hF.size, ?_, ?_⟩, bn := (hc _ _ h2.2.1 h.x0.2.2).trans h.bn }
  · have := h.glob.s
    rw [hc 0 0 (by omega) h.x0.1, hc 0 1 (by omega) h.x0.1, hc 0 2 (by omega) h.x0.1]
    exact this
  · have := h.glob.t
    rw [hc 1 0 (by omega) h.x0.2.1, hc 1 1 (by omega) h.x0.2.1, hc 1 2 (by omega) h.x0.2.1]
    exact this
/-- An arc's cells. -/
theorem RcEnv.arcs (h : RcEnv n₀ X base top N k L f d s Bn W) {p : Stp} (hp : p.1 < L.length) : (W.cell? ⟨d.blk p, 0, none⟩ = some (I (k.a (stT L p))) ∧ W.cell? ⟨d.blk p, 1, none⟩ = some (I (k.b (stT L p))) ∧ W.cell? ⟨d.blk p, 2, none⟩ = some (I (k.c (stT L p)))) ∧ W.cell? ⟨d.blk p, 3, none⟩ = some (I (roomL L f p)) ∧ W.cell? ⟨d.blk p, 4, none⟩ = some (ptr (d.blk (flipS p))) := by
  have h1 := h.net.arc p hp
  exact ⟨⟨(h1.at_ 0 _ rfl).1, (h1.at_ 1 _ rfl).1, (h1.at_ 2 _ rfl).1⟩, (h1.at_ 3 _ rfl).1, (h1.at_ 4 _ rfl).1⟩
end
def flatK (k : Kt) (l : List Nat) : List Value := l.flatMap fun x => [I (k.a x), I (k.b x), I (k.c x)]
theorem flatK_cons (k : Kt) (x : Nat) (l : List Nat) : flatK k (x :: l) = I (k.a x) :: I (k.b x) :: I (k.c x) :: flatK k l := rfl
theorem flatK_app (k : Kt) (a b : List Nat) : flatK k (a ++ b) = flatK k a ++ flatK k b := by simp [flatK]
theorem flatK_len (k : Kt) : ∀ l : List Nat, (flatK k l).length = l.length * 3
  | [] => rfl
  | x :: l => by rw [flatK_cons]; simp [flatK_len k l]; omega
theorem slice109 (R : Option Addr) (n c : Nat) (h : 1 ≤ n) (w : World) : (Instr.sliceAt 109 (.slice R n c) (some (.int .i64 1)) none none).run Tryd.prog w = .ok (sliced R 1 n c 3) w := by
  have u33 : Tryd.prog.underlying 109 = some (.slice (Tryd.prog.elem 109)) := by kernel_rfl
  have s3 : ∀ w, (sizeOf (Tryd.prog.elem 109)).run Tryd.prog w = .ok 3 w := fun w => by kernel_rfl
  rw [run_sliceAt_slice (h := u33), run_slice_l (ht := u33) (h0 := by omega) (h1 := by omega), s3]
  rfl
theorem queue_pop {w : World} {base n : Nat} {e : TypeId} {size : Nat} {v : Value} {xs : List Value} (h : QueueAt w base e size v (n + 1) xs) : ∃ g off cap, v = .slice (some ⟨g, off, none⟩) (n + 1) cap ∧ (∀ j u, xs[j]? = some u → w.cell? ⟨g, off + j, none⟩ = some u) ∧ QueueAt w base e size (sliced (some ⟨g, off, none⟩) 1 (n + 1) cap size) n (xs.drop size) := by
  obtain ⟨g, off, cap, h1, _, _, h2⟩ := h.head
  obtain ⟨ad, cap', h3, _, _, h4⟩ := h.tail
  rw [h1] at h3
  cases h3
  exact ⟨g, off, cap, h1, h2, h4⟩
/-- The search's own memory: what was seen, and the queue. -/
structure RcInv (n₁ : Nat) (k : Kt) (to_ : Stp → Nat) (s N : Nat) (ys : List Stp) (pos : Nat) (qv : Value) (W : World) : Prop where
  seen : ∃ nS fS, MapAt Tryd.prog 89 W n₁ nS fS ∧ ∀ x, x < N → fS (k.v x) = if x ∈ ordS to_ s ys then some (.bool true) else none
  q : QueueAt W n₁ 89 3 qv (ys.length + 1 - pos) (flatK k ((ordS to_ s ys).drop pos))
section
variable {n₁ n₀ s N pos : Nat} {k : Kt} {to_ : Stp → Nat} {ys : List Stp} {qv : Value} {W W' : World} {X : Nat → Prop}
theorem RcInv.keep (h : RcInv n₁ k to_ s N ys pos qv W) (hK : KeepE n₀ X W W') (hn : n₀ ≤ n₁) : RcInv n₁ k to_ s N ys pos qv W' := by
  obtain ⟨⟨nS, fS, h1, h2⟩, h3⟩ := h
  refine ⟨⟨nS, fS, ?_, h2⟩, h3.keep (fun g cur _ hb hg => ?_) (by decide)⟩
  · obtain ⟨es, clock, hb, h4⟩ := h1
    exact ⟨es, clock, hK.new _ _ hn hb rfl, h4⟩
  · rw [hg]
    exact hK.new _ _ (by omega) hg rfl
theorem RcInv.lookup (h : RcInv n₁ k to_ s N ys pos qv W) (hk : KtOk k N) {x : Nat} (hx : x < N) : (Instr.lookup 108 (.map (some n₁)) (k.v x) false).run Tryd.prog W = .ok (.bool (decide (x ∈ ordS to_ s ys))) W := by
  obtain ⟨⟨nS, fS, h1, h2⟩, _⟩ := h
  have hz : (zeroValue 4).run Tryd.prog W = .ok (.bool false) W := by
    have h : (Tryd.prog.info? 4).bind (·.zero) = some (.bool false) := by kernel_rfl
    simp [zeroValue, typeInfo]
    cases hi : Tryd.prog.info? 4 with
    | none => rw [hi] at h; cases h
    | some i => rw [hi] at h; simp at h; simp [h]
  have := h1.lookup (e := 4) (t := 108) lawK Tryd.underlying108 hz (hk.key x hx)
  rw [this, h2 x hx]
  by_cases e : x ∈ ordS to_ s ys
  · rw [if_pos e]; simp [e]
  · rw [if_neg e]; simp [e]
end
end Go.Proofs.YtomfnldlnoiloaaDoor
