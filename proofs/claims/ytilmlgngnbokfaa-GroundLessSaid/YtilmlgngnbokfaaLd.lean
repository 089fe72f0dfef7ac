/- The pressure of a post: load. -/
import Derived.Test.YtilmlgngnbokfaaL2
import Derived.Test.YtilmlgngnbokfaaS
import Derived.Test.YtilmlgngnbokfaaPf
import Derived.Maps.AppendAt
import Derived.RangeFuncNested
namespace Go.Proofs.Ytilmlgngnbokfaa
set_option linter.unusedVariables false
set_option linter.unusedSimpArgs false
open Go.RowKit Go.Shelf
attribute [local go_sem] Oper.semAt_some

theorem stand_stops (F : Fence) (n : Nat) (h77 : F.fn 77) (hro : F.round = none) (hn : 1 ≤ n) (Bo Bp Bl bd od : Nat) (l r off wt ap : Int) (w : World)
    (hBo : Bo < w.heap.size ∧ Bo ≠ Bl) (hBp : Bp < w.heap.size ∧ Bp ≠ Bl) (hbd : bd < w.heap.size ∧ bd ≠ Bl)
    (hl : 0 ≤ l ∧ l ≤ 200) (hr : 0 ≤ r ∧ r ≤ 200) (hoff : 0 ≤ off ∧ off < ap) (hwt : 0 ≤ wt ∧ wt ≤ 500) (hap : 1 ≤ ap ∧ ap ≤ 400)
    (co : w.cell? ⟨Bo, 0, none⟩ = some (I off)) (cp0 : w.cell? ⟨Bp, 0, none⟩ = some (.pointer (some ⟨bd, od, none⟩))) (cp1 : w.cell? ⟨Bp, 1, none⟩ = some (I l)) (cp2 : w.cell? ⟨Bp, 2, none⟩ = some (I r))
    (cd3 : w.cell? ⟨bd, od + 3, none⟩ = some (I wt)) (cd4 : w.cell? ⟨bd, od + 4, none⟩ = some (I ap)) :
    SeqStopsK F n Try.prog 77 #[.pointer (some ⟨Bo, 0, none⟩), .pointer (some ⟨Bp, 0, none⟩)] (fun x : Int × Int => #[Rat2 x.1 x.2]) (Keeps1 w.heap.size Bl) (fun ys => ys = standR l r wt ap off) (fun pre => pre <+: standR l r wt ap off) 1000 w :=
  fun ll J Jx W hW hJ _ hY h0 =>
    stand1_in F n h77 hro hn ll Bo Bp w.heap.size Bl bd od l r off wt ap hBo hBp hbd hl hr hoff hwt hap J Jx
      (fun s W hs => hJ s W W.drew none hs ⟨rfl, rfl, rfl, Nat.le_refl _, fun _ _ _ => rfl⟩ (fun r e => by cases e)) hY W
      ((hW.cell (p := ⟨Bo, 0, none⟩) hBo.1).trans co) ((hW.cell (p := ⟨Bp, 0, none⟩) hBp.1).trans cp0) ((hW.cell (p := ⟨Bp, 1, none⟩) hBp.1).trans cp1) ((hW.cell (p := ⟨Bp, 2, none⟩) hBp.1).trans cp2)
      ((hW.cell (p := ⟨bd, od + 3, none⟩) hbd.1).trans cd3) ((hW.cell (p := ⟨bd, od + 4, none⟩) hbd.1).trans cd4) h0

/-! ### What load computes -/
section
variable (l r own wt ap pe : Int)
/-- A denominator of all that a post bears. -/
def comU : Int := 2 * max 1 l * max 1 r
/-- What a post bears of each, times the denominator. -/
def valsU (off : Int) : List Int := (standR l r wt ap off).map fun p => p.1 * (comU l r / p.2)
/-- The greatest burden of the first k beginnings. -/
def bestU : Nat → Int
  | 0 => 0
  | k + 1 => max (bestU k) (topS pe.toNat (valsU l r wt ap k))
def halfU : Int := own * (l + r) * (max 1 l * max 1 r)
def loadU : Int := bestU l r wt ap pe (min ap (max l r + 1)).toNat + halfU l r own
end

theorem comU_bd {l r : Int} (hl : 0 ≤ l ∧ l ≤ 200) (hr : 0 ≤ r ∧ r ≤ 200) : 0 < comU l r ∧ comU l r ≤ 80000 := by
  unfold comU
  have := mul_bd (show 0 ≤ max 1 l by omega) (show max 1 l ≤ 200 by omega) (show 0 ≤ max 1 r by omega) (show max 1 r ≤ 200 by omega)
  have h2 : 0 < max 1 l * max 1 r := Int.mul_pos (by omega) (by omega)
  rw [Int.mul_assoc]
  omega

/-- Each of what is yielded is a fraction of the right kind. -/
theorem stand_rt {l r wt ap off : Int} (hl : 0 ≤ l ∧ l ≤ 200) (hr : 0 ≤ r ∧ r ≤ 200) (hoff : 0 ≤ off ∧ off < ap) (hwt : 0 ≤ wt ∧ wt ≤ 500) (hap : 1 ≤ ap ∧ ap ≤ 400) :
    ∀ p ∈ standR l r wt ap off, 0 ≤ p.1 ∧ p.1 ≤ 500 * p.2 ∧ 1 ≤ p.2 ∧ p.2 ≤ 200 ∧ p.2 ∣ comU l r := by
  intro p hp
  unfold standR at hp
  rcases List.mem_append.1 hp with h | h
  · obtain ⟨x, hx, rfl⟩ := List.mem_map.1 h
    obtain ⟨h1, h2⟩ := mem_upsF hap.1 hx
    have := mul_bd hwt.1 hwt.2 (show 0 ≤ max 1 l - x by omega) (Int.le_refl _)
    refine ⟨this.1, ?_, by simp only; omega, by simp only; omega, ⟨2 * max 1 r, by unfold comU; rw [Int.mul_comm 2 (max 1 l), Int.mul_assoc]⟩⟩
    simp only
    omega
  · obtain ⟨x, hx, rfl⟩ := List.mem_map.1 h
    obtain ⟨h1, h2⟩ := mem_upsF hap.1 hx
    have := mul_bd hwt.1 hwt.2 (show 0 ≤ r - x by omega) (Int.le_refl _)
    refine ⟨this.1, ?_, by simp only; omega, by simp only; omega, ⟨2 * max 1 l, by unfold comU; rw [show max 1 r = r by omega, Int.mul_comm]⟩⟩
    simp only
    omega

def toRT (C : Int) (p : Int × Int) : RT C := if h : 0 ≤ p.1 ∧ p.1 ≤ 500 * p.2 ∧ 1 ≤ p.2 ∧ p.2 ≤ 200 ∧ p.2 ∣ C then ⟨p, h⟩ else default
theorem toRT_val {C : Int} {p : Int × Int} (h : 0 ≤ p.1 ∧ p.1 ≤ 500 * p.2 ∧ 1 ≤ p.2 ∧ p.2 ≤ 200 ∧ p.2 ∣ C) : (toRT C p).1 = p := by unfold toRT; exact (congrArg Subtype.val (dif_pos h)).trans rfl
/-- The cells of a row of fractions. -/
def flatP (ys : List (Int × Int)) : List Value := ys.flatMap fun p => [I p.1, I p.2]
theorem flatP_snoc (ys : List (Int × Int)) (p : Int × Int) : flatP (ys ++ [p]) = flatP ys ++ [I p.1, I p.2] := by simp [flatP]
theorem flat_rt {C : Int} (ys : List (Int × Int)) (h : ∀ p ∈ ys, 0 ≤ p.1 ∧ p.1 ≤ 500 * p.2 ∧ 1 ≤ p.2 ∧ p.2 ≤ 200 ∧ p.2 ∣ C) : flatR (ys.map (toRT C)) = flatP ys := by
  induction ys with
  | nil => rfl
  | cons p ys ih =>
    simp only [List.mem_cons, forall_eq_or_imp] at h
    have := ih h.2
    simp only [flatR, flatP, List.map_cons, List.flatMap_cons] at *
    rw [this]
    simp only [encR, toRT_val h.1]
theorem vals_rt {l r wt ap off : Int} (h : ∀ p ∈ standR l r wt ap off, 0 ≤ p.1 ∧ p.1 ≤ 500 * p.2 ∧ 1 ≤ p.2 ∧ p.2 ≤ 200 ∧ p.2 ∣ comU l r) :
    ((standR l r wt ap off).map (toRT (comU l r))).map vOf = valsU l r wt ap off := by
  unfold valsU
  rw [List.map_map]
  refine List.map_congr_left fun p hp => ?_
  simp only [Function.comp, vOf, toRT_val (h p hp)]

theorem stand_length {l r wt ap off : Int} (hl : 0 ≤ l ∧ l ≤ 200) (hr : 0 ≤ r ∧ r ≤ 200) (hoff : 0 ≤ off ∧ off < ap) (hap : 1 ≤ ap ∧ ap ≤ 400) : (standR l r wt ap off).length ≤ 600 := by
  unfold standR
  have h1 := upsF_length hap.1 (bound := max 1 l) off
  have h2 := upsF_length hap.1 (bound := r) (ap - off)
  simp
  omega

theorem sum_le {M : Int} : ∀ (l : List Int), (∀ v ∈ l, 0 ≤ v ∧ v ≤ M) → 0 ≤ l.sum ∧ l.sum ≤ l.length * M
  | [], _ => by simp
  | a :: l, h => by
    have h1 := h a (by simp)
    have h2 := sum_le l (fun v hv => h v (by simp [hv]))
    have e : ((a :: l).length : Int) * M = (l.length : Int) * M + M := by simp [Int.add_mul]
    rw [e, List.sum_cons]
    omega
theorem topS_le {M : Int} (hM : 0 ≤ M) (k : Nat) (l : List Int) (h : ∀ v ∈ l, 0 ≤ v ∧ v ≤ M) : 0 ≤ topS k l ∧ topS k l ≤ k * M := by
  unfold topS
  have h1 := sum_le (M := M) ((l.mergeSort geI).take k) (fun v hv => h v ((List.mergeSort_perm l geI).mem_iff.1 (List.mem_of_mem_take hv)))
  refine ⟨h1.1, Int.le_trans h1.2 (Int.mul_le_mul_of_nonneg_right ?_ hM)⟩
  simp
  omega
theorem vals_bd {l r wt ap off : Int} (hl : 0 ≤ l ∧ l ≤ 200) (hr : 0 ≤ r ∧ r ≤ 200) (hoff : 0 ≤ off ∧ off < ap) (hwt : 0 ≤ wt ∧ wt ≤ 500) (hap : 1 ≤ ap ∧ ap ≤ 400) :
    ∀ v ∈ valsU l r wt ap off, 0 ≤ v ∧ v ≤ 500 * comU l r := by
  have hcd := comU_bd hl hr
  rw [← vals_rt (stand_rt hl hr hoff hwt hap)]
  intro v hv
  obtain ⟨x, _, rfl⟩ := List.mem_map.1 hv
  exact ⟨rep_nonneg hcd.1 (vOf_rep x), vOf_le hcd.1 x⟩
theorem top_bd {l r wt ap pe off : Int} (hl : 0 ≤ l ∧ l ≤ 200) (hr : 0 ≤ r ∧ r ≤ 200) (hoff : 0 ≤ off ∧ off < ap) (hwt : 0 ≤ wt ∧ wt ≤ 500) (hap : 1 ≤ ap ∧ ap ≤ 400) (hpe : 0 ≤ pe ∧ pe ≤ 100) :
    0 ≤ topS pe.toNat (valsU l r wt ap off) ∧ topS pe.toNat (valsU l r wt ap off) ≤ 50000 * comU l r := by
  have hcd := comU_bd hl hr
  have := topS_le (M := 500 * comU l r) (by omega) pe.toNat _ (vals_bd hl hr hoff hwt hap)
  have h2 : (pe.toNat : Int) * (500 * comU l r) ≤ 100 * (500 * comU l r) := Int.mul_le_mul_of_nonneg_right (by omega) (by omega)
  omega
theorem best_bd {l r wt ap pe : Int} (hl : 0 ≤ l ∧ l ≤ 200) (hr : 0 ≤ r ∧ r ≤ 200) (hwt : 0 ≤ wt ∧ wt ≤ 500) (hap : 1 ≤ ap ∧ ap ≤ 400) (hpe : 0 ≤ pe ∧ pe ≤ 100) :
    ∀ k : Nat, (k : Int) ≤ ap → 0 ≤ bestU l r wt ap pe k ∧ bestU l r wt ap pe k ≤ 50000 * comU l r
  | 0, _ => by have hcd := comU_bd hl hr; unfold bestU; omega
  | k + 1, h => by
    have h1 := best_bd hl hr hwt hap hpe k (by omega)
    have h2 := top_bd (pe := pe) hl hr (off := k) ⟨by omega, by omega⟩ hwt hap hpe
    unfold bestU
    omega
theorem half_rep {l r own : Int} (hl : 0 ≤ l ∧ l ≤ 200) (hr : 0 ≤ r ∧ r ≤ 200) (hown : 0 ≤ own ∧ own ≤ 100) : Rep (comU l r) (own * (l + r), 2) (halfU l r own) := by
  have := mul_bd hown.1 hown.2 (show 0 ≤ l + r by omega) (show l + r ≤ 400 by omega)
  refine ⟨this.1, by simp, ⟨max 1 l * max 1 r, by unfold comU; rw [Int.mul_assoc]⟩, ?_⟩
  unfold comU halfU
  simp only
  ac_rfl
theorem half_bd {l r own : Int} (hl : 0 ≤ l ∧ l ≤ 200) (hr : 0 ≤ r ∧ r ≤ 200) (hown : 0 ≤ own ∧ own ≤ 100) : 0 ≤ halfU l r own ∧ halfU l r own ≤ 40000 * comU l r := by
  have hcd := comU_bd hl hr
  have h1 := mul_bd hown.1 hown.2 (show 0 ≤ l + r by omega) (show l + r ≤ 400 by omega)
  have h2 := mul_bd (show 0 ≤ max 1 l by omega) (show max 1 l ≤ 200 by omega) (show 0 ≤ max 1 r by omega) (show max 1 r ≤ 200 by omega)
  have h3 := mul_bd h1.1 h1.2 h2.1 (Int.le_refl _)
  have e : comU l r = 2 * (max 1 l * max 1 r) := by unfold comU; rw [Int.mul_assoc]
  unfold halfU
  omega

/-- The end of a body that holds marks and does not panic. -/
def postM (F : Fence) (n : Nat) (P : Program) (fn : Func) (R : Ending → World → Prop) : Exit → Act → World → Prop
  | .panic _, _, _ => False
  | e, a, w => bodyPostM F n P fn R e a w
theorem postM_of {F : Fence} {n : Nat} {P : Program} {fn : Func} {R : Ending → World → Prop} : ∀ e a w, postM F n P fn R e a w → bodyPostM F n P fn R e a w
  | .normal, _, _, h => h
  | .ret, _, _, h => h
  | .exit _, _, _, h => h
  | .goto _, _, _, h => h
  | .outgrown, _, _, h => h
  | .panic _, _, _, h => h.elim

/-- The marks of the loops over functions that have ended. -/
def markOf (D : Nat) : Deferred := { target := .collected D, args := #[] }
def Marks (B : Nat) (Ds : List Nat) (W : World) : Prop := Ds.Nodup ∧ ∀ D ∈ Ds, B ≤ D ∧ W.heap[D]? = some (.deferred (some []))
theorem leavesM_marks {F : Fence} {n : Nat} {P : Program} {fn : Func} {tmps : Array Value} {R : Ending → World → Prop} {B : Nat} : ∀ (Ds : List Nat) (W : World), Marks B Ds W →
    (∀ W', Below B W W' → (∀ k, k ∉ Ds → W'.heap[k]? = W.heap[k]?) → LeavesIn F n P fn tmps R [] .returning W') → LeavesInM F n P fn tmps R (Ds.map markOf) .returning W
  | [], W, _, h => h W (Below.refl _ _) (fun _ _ => rfl)
  | D :: Ds, W, hM, h => by
    obtain ⟨hn, hD⟩ := hM
    rw [List.nodup_cons] at hn
    have h1 := hD D (by simp)
    refine ⟨by simp, .inl ⟨D, _, rfl, run_takeDeferred h1.2, ?_⟩⟩
    refine leavesM_marks Ds _ ⟨hn.2, fun D' hD' => ⟨(hD D' (by simp [hD'])).1, ?_⟩⟩ ?_
    · rw [World.putObj_heap_other (by rintro rfl; exact hn.1 hD')]
      exact (hD D' (by simp [hD'])).2
    · intro W' hB' hk
      have hb1 : Below B W (W.putObj D (.deferred none)) := (Below.refl B W).grown (grownBy_putObj' W D _) (by have := (Array.getElem?_eq_some_iff.1 h1.2).1; omega) (fun k e => by cases e; exact h1.1)
      refine h W' (hb1.trans hB') fun k hk' => ?_
      rw [List.mem_cons, not_or] at hk'
      rw [hk k hk'.2, World.putObj_heap_other (by omega)]

theorem Marks.keep {B : Nat} {Ds : List Nat} {W W' : World} (h : Marks B Ds W) (hk : ∀ D ∈ Ds, W'.heap[D]? = W.heap[D]?) : Marks B Ds W' := ⟨h.1, fun D hD => ⟨(h.2 D hD).1, (hk D hD).trans (h.2 D hD).2⟩⟩
theorem Marks.lt {B : Nat} {Ds : List Nat} {W : World} (h : Marks B Ds W) : ∀ D ∈ Ds, D < W.heap.size := fun D hD => (Array.getElem?_eq_some_iff.1 (h.2 D hD).2).1
theorem Marks.frm {B : Nat} {Ds : List Nat} {W W' : World} {S : Nat → Prop} {N : Nat} (h : Marks B Ds W) (hF : Frm N S W W') (hN : W.heap.size ≤ N) (hS : ∀ D ∈ Ds, ¬ S D) : Marks B Ds W' :=
  h.keep fun D hD => hF.block D (Nat.lt_of_lt_of_le (h.lt D hD) hN) (hS D hD)

/-- What load's walk keeps in sight. -/
def LdF (N bd od : Nat) (l r own wt ap pe : Int) (W : World) : Prop :=
  (W.cell? ⟨N, 0, none⟩ = some (.pointer (some ⟨bd, od, none⟩)) ∧ W.cell? ⟨N, 1, none⟩ = some (I l) ∧ W.cell? ⟨N, 2, none⟩ = some (I r)) ∧
  (W.cell? ⟨N + 1, 0, none⟩ = some (I 0) ∧ W.cell? ⟨N + 1, 1, none⟩ = some (I 0) ∧ W.frozen? ⟨N + 1, 0, none⟩ = false ∧ W.frozen? ⟨N + 1, 1, none⟩ = false) ∧
  (W.cell? ⟨N + 1 + 1, 0, none⟩ = some (I 0) ∧ W.cell? ⟨N + 1 + 1, 1, none⟩ = some (I 1)) ∧
  (W.cell? ⟨bd, od + 2, none⟩ = some (I own) ∧ W.cell? ⟨bd, od + 3, none⟩ = some (I wt) ∧ W.cell? ⟨bd, od + 4, none⟩ = some (I ap) ∧ W.cell? ⟨bd, od + 5, none⟩ = some (I pe))
theorem LdF.frm {N bd od : Nat} {l r own wt ap pe : Int} {W W' : World} {S : Nat → Prop} {M : Nat} (h : LdF N bd od l r own wt ap pe W) (hF : Frm M S W W') (hM : N + 3 ≤ M) (hbd : bd < N)
    (h0 : ¬ S N) (h1 : ¬ S (N + 1)) (h2 : ¬ S (N + 1 + 1)) (h3 : ¬ S bd) : LdF N bd od l r own wt ap pe W' := by
  obtain ⟨⟨a1, a2, a3⟩, ⟨b1, b2, b3, b4⟩, ⟨d1, d2⟩, e1, e2, e3, e4⟩ := h
  exact ⟨⟨(hF.cell (by omega) h0).trans a1, (hF.cell (by omega) h0).trans a2, (hF.cell (by omega) h0).trans a3⟩,
    ⟨(hF.cell (by omega) h1).trans b1, (hF.cell (by omega) h1).trans b2, (hF.frozen (by omega) h1).trans b3, (hF.frozen (by omega) h1).trans b4⟩,
    ⟨(hF.cell (by omega) h2).trans d1, (hF.cell (by omega) h2).trans d2⟩,
    (hF.cell (by omega) h3).trans e1, (hF.cell (by omega) h3).trans e2, (hF.cell (by omega) h3).trans e3, (hF.cell (by omega) h3).trans e4⟩

theorem Keeps1.trans {H Bl : Nat} {A B C : World} (h : Keeps1 H Bl A B) (k : Keeps1 H Bl B C) : Keeps1 H Bl A C := ⟨Nat.le_trans h.1 k.1, fun b h1 h2 => (k.2 b h1 h2).trans (h.2 b h1 h2)⟩
theorem Keeps1.put {H Bl : Nat} {w : World} (hH : H ≤ w.heap.size) (W : World) (l : Nat) (o o' : Obj) (hl : w.heap.size ≤ l) (_ : W.heap[l]? = some o) (_ : o.isCells = false) (_ : o.isWalk = false) : Keeps1 H Bl W (W.putObj l o') :=
  ⟨by simp, fun b h1 _ => World.putObj_heap_other (by omega)⟩
theorem Frm.keeps1 {H Bl : Nat} {A B : World} (h : Frm H (· = Bl) A B) : Keeps1 H Bl A B := ⟨h.size, h.block⟩
theorem ownFrom_frm {β : Type} {H B Bl : Nat} {w : World} (hH : H ≤ w.heap.size) (hB : H ≤ B) : OwnFrom B (fun (_ : β) W => Frm H (· = Bl) w W) :=
  fun _ _ _ _ hs hg hr => hs.grown hg (Nat.le_trans hH hs.size) (fun k e => .inl (Nat.le_trans hB (hr k e).1))

theorem cells_new (W : World) (vs : List Value) (t : TypeId) : ∀ j u, vs[j]? = some u → (W.alloc (.cells vs.toArray t)).cell? ((⟨W.heap.size, 0, none⟩ : Addr).add j) = some u := by
  intro j u h
  have : ((⟨W.heap.size, 0, none⟩ : Addr).add j) = ⟨W.heap.size, j, none⟩ := by unfold Addr.add; split <;> simp_all
  rw [this, World.cell?_alloc_at _ _ _ _ _]
  · simpa using h
  · rfl
theorem row_mono {w : World} {base base' : Nat} {e : TypeId} {size : Nat} {v : Value} {n : Nat} {xs : List Value} (h : w.ownsRow base e size v n xs) (hb : base' ≤ base) : w.ownsRow base' e size v n xs :=
  ⟨h.1, h.2.imp id (fun ⟨g, cap, cur, h1, h2, h3⟩ => ⟨g, cap, cur, h1, by omega, h3⟩)⟩
theorem info67 : (Try.prog.info? 67).map (fun i => (i.zero, i.size, i.bytes)) = some (some (.agg #[.int .i64 0, .int .i64 0]), 2, 16) := by kernel_rfl

set_option maxRecDepth 100000 in
set_option maxHeartbeats 1000000 in
theorem load_any (bd od : Nat) (l r own wt ap pe : Int) (w : World) (hbd : bd < w.heap.size)
    (hl : 0 ≤ l ∧ l ≤ 200) (hr : 0 ≤ r ∧ r ≤ 200) (hown : 0 ≤ own ∧ own ≤ 100) (hwt : 0 ≤ wt ∧ wt ≤ 500) (hap : 1 ≤ ap ∧ ap ≤ 400) (hpe : 0 ≤ pe ∧ pe ≤ 100)
    (c2 : w.cell? ⟨bd, od + 2, none⟩ = some (I own)) (c3 : w.cell? ⟨bd, od + 3, none⟩ = some (I wt)) (c4 : w.cell? ⟨bd, od + 4, none⟩ = some (I ap)) (c5 : w.cell? ⟨bd, od + 5, none⟩ = some (I pe)) :
    Calls Try.prog 40 #[.agg #[.pointer (some ⟨bd, od, none⟩), I l, I r]] w fun e w' =>
      e = .returned (Rat2 (loadU l r own wt ap pe / gcdI (loadU l r own wt ap pe) (comU l r)) (comU l r / gcdI (loadU l r own wt ap pe) (comU l r))) ∧ Below w.heap.size w w' := by
  refine (callsIn_wide (n := 5)).1 ?_
  refine callsIn_of_wp_marks Try.func40 rfl trivial ?_ rfl
  refine wpIn_mono (Q := postM _ _ _ _ _) ?_ postM_of
  simp only [Try.ntmps40, List.size_toArray, List.length_cons, List.length_nil, Nat.reduceAdd, Nat.reduceSub, Array.replicate_succ, Array.replicate_zero, List.push_toArray, List.append_toArray, List.nil_append, List.cons_append]
  have hb1 : max l r + 1 ≤ 201 := by omega
  have hb2 : IntKind.i64.wrap (max l r + 1) = max l r + 1 := IntWalk.i64_in _ (by omega)
  gi_wp2
  refine wpIn_region_text [0, 1, 2, 3, 4, 5, 6, 7, 8, 9, 10, 11, 12] rfl (by kernel_rfl) (by kernel_rfl) (fun _ d _ _ _ h => by cases d <;> exact h) ?_
  have hbd1 : bd < w.heap.size + 1 := by omega
  have hbd2 : bd < w.heap.size + 1 + 1 := by omega
  have hbd3 : bd < w.heap.size + 1 + 1 + 1 := by omega
  iterate 13 (refine ordT_li rfl rfl (fun K hK => ?_); go_simp; refine hK _ ?_; clear hK K)
  refine ordT_nil ?_
  gi_wp2
  obtain ⟨W0, hW0⟩ : ∃ W0, W0 = ((((w.alloc (.cells #[.pointer (some ⟨bd, od, none⟩), I l, I r] 70)).alloc (.cells #[I 0, I 0] 67)).alloc (.cells #[I 0, I 1] 67)).alloc (.cells #[I 0, I 1] 67)).drew := ⟨_, rfl⟩
  rw [show World.drew _ = W0 from hW0.symm]
  have hs0 : W0.heap.size = w.heap.size + 4 := by rw [hW0]; simp
  have hB0 : Below w.heap.size w W0 := by rw [hW0]; (repeat' (first | assumption | exact Below.refl _ _ | refine Below.drew ?_ | refine below_drewN ?_ _ | refine Below.setCell ?_ (by first | omega | (simp; done) | (simp; omega)) _ | refine Below.alloc ?_ (by first | omega | (simp; done) | (simp; omega)) _ | refine Below.trans ?_ (Below.mono (by assumption) (by first | omega | (simp; done) | (simp; omega)))))
  have hL0 : LdF w.heap.size bd od l r own wt ap pe W0 := by
    rw [hW0]
    unfold LdF
    simp [go_sem, hbd, hbd1, hbd2, hbd3, c2, c3, c4, c5]
  have hM0 : W0.cell? ⟨w.heap.size + 1 + 1 + 1, 0, none⟩ = some (I 0) ∧ W0.cell? ⟨w.heap.size + 1 + 1 + 1, 1, none⟩ = some (I 1) ∧ W0.frozen? ⟨w.heap.size + 1 + 1 + 1, 0, none⟩ = false ∧ W0.frozen? ⟨w.heap.size + 1 + 1 + 1, 1, none⟩ = false := by
    rw [hW0]; simp [go_sem]
  clear hW0 hbd1 hbd2 hbd3 c2 c3 c4 c5
  have hcd := comU_bd hl hr
  refine wpIn_loop (fun a wr => ∃ (Ds : List Nat) (u5 u6 u8 u23 u24 u25 u26 u27 u28 u34 u35 u36 u37 u38 u39 u40 u41 u42 u43 u44 u45 u46 u47 : Value), (∃ k : Nat, (k : Int) ≤ min ap (max l r + 1) ∧ u23 = I k ∧ (∃ x y, Rep (comU l r) (x, y) (bestU l r wt ap pe k) ∧ wr.cell? ⟨w.heap.size + 1 + 1 + 1, 0, none⟩ = some (I x) ∧ wr.cell? ⟨w.heap.size + 1 + 1 + 1, 1, none⟩ = some (I y) ∧ wr.frozen? ⟨w.heap.size + 1 + 1 + 1, 0, none⟩ = false ∧ wr.frozen? ⟨w.heap.size + 1 + 1 + 1, 1, none⟩ = false) ∧
      Frm (w.heap.size + 4) (· = w.heap.size + 1 + 1 + 1) W0 wr ∧ Marks (w.heap.size + 4) Ds wr) ∧
      a = { tmps := #[.agg #[.pointer (some ⟨bd, od, none⟩), I l, I r], .pointer (some ⟨w.heap.size, 0, none⟩), .pointer (some ⟨w.heap.size + 1, 0, none⟩), .pointer (some ⟨w.heap.size + 1 + 1, 0, none⟩), .pointer (some ⟨w.heap.size + 1 + 1 + 1, 0, none⟩), u5, u6, undef, u8, .agg #[I 0, I 1], .agg #[I 0, I 1], .pointer (some ⟨w.heap.size, 0, none⟩), .pointer (some ⟨bd, od, none⟩), .pointer (some ⟨bd, od, none⟩), .pointer (some ⟨bd, od + 4, none⟩), I ap, .pointer (some ⟨w.heap.size, 1, none⟩), I l, .pointer (some ⟨w.heap.size, 2, none⟩), I r, I (max l r), I (max l r + 1), I (min ap (max l r + 1)), u23, u24, u25, u26, u27, u28, undef, undef, undef, undef, undef, u34, u35, u36, u37, u38, u39, u40, u41, u42, u43, u44, u45, u46, u47, undef, undef, undef, undef, undef, undef, undef, undef, undef, undef, undef, undef, undef, undef, undef], defers := Ds.map markOf }) (fun a _ => (1000 - intOf (a.tmps.getD 23 undef)).toNat) ?_ ?_
  · refine ⟨[], ?_⟩
    (repeat apply Exists.intro)
    refine ⟨⟨0, ?_, rfl, ⟨0, 1, ⟨by simp, by simp, by simp, by simp [bestU]⟩, hM0⟩, Frm.refl _ _ _, List.nodup_nil, fun D h => by cases h⟩, rfl⟩
    omega
  intro _ wr hinv
  obtain ⟨Ds, u5, u6, u8, u23, u24, u25, u26, u27, u28, u34, u35, u36, u37, u38, u39, u40, u41, u42, u43, u44, u45, u46, u47, ⟨k, hk, rfl, ⟨x, y, hR, m1, m2, m3, m4⟩, hFr, hMk⟩, rfl⟩ := hinv
  have hLr := hL0.frm hFr (by omega) hbd (by omega) (by omega) (by omega) (by omega)
  have hsr : w.heap.size + 4 ≤ wr.heap.size := by have := hFr.size; omega
  have hLr' := Lib.hid hLr
  obtain ⟨⟨a1, a2, a3⟩, ⟨b1, b2, b3, b4⟩, ⟨d1, d2⟩, e1, e2, e3, e4⟩ := hLr
  have hkb : 0 ≤ (k : Int) ∧ (k : Int) ≤ 201 := by omega
  have hz0 : w.heap.size < wr.heap.size := by omega
  have hz1 : w.heap.size + 1 < wr.heap.size := by omega
  have hz2 : w.heap.size + 1 + 1 < wr.heap.size := by omega
  have hz3 : w.heap.size + 1 + 1 + 1 < wr.heap.size := by omega
  have hzb : bd < wr.heap.size := by omega
  by_cases hlt : (k : Int) < min ap (max l r + 1)
  · gi_wp2_with (refine And.intro trivial ?_; gi_at_call 62; refine (stand_in Fence.wide _ trivial rfl _ _ _ _ _).mono ?_; rintro e w1 ⟨rfl, rfl⟩)
    obtain ⟨w1, hw1⟩ : ∃ w1, w1 = ((wr.alloc (.cells #[.slice none 0 0] 97)).alloc (.cells #[.pointer (some ⟨bd, od, none⟩), I l, I r] 70)).alloc (.cells #[I k] 3) := ⟨_, rfl⟩
    rw [show World.alloc (World.alloc (World.alloc wr _) _) _ = w1 from hw1.symm]
    have hs1 : w1.heap.size = wr.heap.size + 3 := by rw [hw1]; simp
    have hB1 : Below wr.heap.size wr w1 := by rw [hw1]; (repeat' (first | assumption | exact Below.refl _ _ | refine Below.drew ?_ | refine below_drewN ?_ _ | refine Below.setCell ?_ (by first | omega | (simp; done) | (simp; omega)) _ | refine Below.alloc ?_ (by first | omega | (simp; done) | (simp; omega)) _ | refine Below.trans ?_ (Below.mono (by assumption) (by first | omega | (simp; done) | (simp; omega)))))
    have hx1 : Boxed w1 wr.heap.size 97 (.slice none 0 0) := by rw [hw1]; exact ((Boxed.new wr 97 _).alloc _).alloc _
    have hcs : w1.cell? ⟨wr.heap.size + 1, 0, none⟩ = some (.pointer (some ⟨bd, od, none⟩)) ∧ w1.cell? ⟨wr.heap.size + 1, 1, none⟩ = some (I l) ∧ w1.cell? ⟨wr.heap.size + 1, 2, none⟩ = some (I r) ∧ w1.cell? ⟨wr.heap.size + 1 + 1, 0, none⟩ = some (I k) := by
      rw [hw1]; simp [go_sem]
    clear hw1
    have hF1 : Frm wr.heap.size (fun _ => False) wr w1 := Frm.of_below hB1 (Nat.le_refl _)
    have hL1 := hLr'.out.frm hF1 (by omega) hbd (fun h => h) (fun h => h) (fun h => h) (fun h => h)
    obtain ⟨i0, hi, hi1, hi2, hi3⟩ := info_parts info67
    have hk0 : 0 ≤ (k : Int) ∧ (k : Int) < ap := by omega
    refine wpIn_rangeFunc_ownH (α := Int × Int) rfl (by omega) (gf := 77) (lb := #[.pointer (some ⟨wr.heap.size + 1 + 1, 0, none⟩), .pointer (some ⟨wr.heap.size + 1, 0, none⟩)]) rfl trivial (enters_of Try.func77 (by kernel_rfl) rfl)
      (stand_stops Fence.wide 4 trivial rfl (by omega) (wr.heap.size + 1 + 1) (wr.heap.size + 1) wr.heap.size bd od l r k wt ap w1 ⟨by omega, by omega⟩ ⟨by omega, by omega⟩ ⟨by omega, by omega⟩ hl hr hk0 hwt hap hcs.2.2.2 hcs.1 hcs.2.1 hcs.2.2.1 hL1.2.2.2.2.1 hL1.2.2.2.2.2.1)
      (fun h k => h.trans k) (Keeps1.put (by omega)) (Below.refl _ _) (fun _ => rfl)
      (fun pre W => (∃ v, Boxed W wr.heap.size 97 v ∧ W.ownsRow w1.heap.size 67 2 v pre.length (flatP pre) ∧ True) ∧ Frm w1.heap.size (· = wr.heap.size) w1 W)
      (fun _ _ _ => False)
      (OwnFrom.and (Own.from (holdsRow_own w1.heap.size wr.heap.size 97 67 2 (fun pre => pre.length) (fun pre => flatP pre) (fun _ _ => True)) _) (ownFrom_frm (Nat.le_refl _) (Nat.le_refl _)))
      (fun _ _ _ _ _ hs _ _ => hs)
      ⟨⟨_, hx1, World.ownsRow_nil _ _ _ _, trivial⟩, Frm.refl _ _ _⟩
      (fun p a' W => ∃ Bx, w1.heap.size ≤ Bx ∧ W.heap[Bx]? = some (.cells #[I p.1, I p.2] 67 (0, 0)) ∧ a' = { tmps := #[.agg #[.pointer (some ⟨bd, od, none⟩), I l, I r], .pointer (some ⟨w.heap.size, 0, none⟩), .pointer (some ⟨w.heap.size + 1, 0, none⟩), .pointer (some ⟨w.heap.size + 1 + 1, 0, none⟩), .pointer (some ⟨w.heap.size + 1 + 1 + 1, 0, none⟩), I k, .pointer (some ⟨wr.heap.size, 0, none⟩), .pointer (some ⟨Bx, 0, none⟩), u8, .agg #[I 0, I 1], .agg #[I 0, I 1], .pointer (some ⟨w.heap.size, 0, none⟩), .pointer (some ⟨bd, od, none⟩), .pointer (some ⟨bd, od, none⟩), .pointer (some ⟨bd, od + 4, none⟩), I ap, .pointer (some ⟨w.heap.size, 1, none⟩), I l, .pointer (some ⟨w.heap.size, 2, none⟩), I r, I (max l r), I (max l r + 1), I (min ap (max l r + 1)), I k, .bool true, I k, .agg #[.pointer (some ⟨bd, od, none⟩), I l, I r], I k, .func (.func 77) #[] #[.pointer (some ⟨wr.heap.size + 1 + 1, 0, none⟩), .pointer (some ⟨wr.heap.size + 1, 0, none⟩)], Rat2 p.1 p.2, undef, undef, undef, undef, u34, u35, u36, u37, u38, u39, u40, u41, u42, u43, u44, u45, u46, u47, undef, undef, undef, undef, undef, undef, undef, undef, undef, undef, undef, undef, undef, undef, undef], defers := [] })
      (fun p a' _ X Y row hs hg hr => by
        obtain ⟨Bx, h1, h2, h3⟩ := hs
        refine ⟨Bx, h1, (hg.block Bx (Array.getElem?_eq_some_iff.1 h2).1 (fun e => ?_)).trans h2, h3⟩
        obtain ⟨o, ho, hc⟩ := (hr Bx e.symm).2
        rw [h2] at ho; cases ho; cases hc)
      ?assign ?body ?done ?stop
    case assign =>
      rintro ll pre p W K ⟨⟨v, hv, hrow, _⟩, hF⟩ hK
      gi_wp2
      exact hK _ _ ((KeepsOthers.alloc _ _).from _) ⟨by simp, fun b h1 _ => (Below.heap_alloc W _ _ (Nat.lt_of_lt_of_le h1 hF.size))⟩ ⟨⟨v, hv.alloc _, hrow.alloc _, trivial⟩, hF.alloc hF.size _⟩ ⟨W.heap.size, hF.size, World.alloc_heap_new W _, rfl⟩
    case body =>
      rintro ll pre p a' W hll hlr ⟨⟨v, hv, hrow, _⟩, hF⟩ ⟨Bx, hBx, hbx, rfl⟩ hlen
      have hc := hv.cell
      have q1 : W.cell? ⟨Bx, 0, none⟩ = some (I p.1) := by simp [World.cell?, hbx]
      have q2 : W.cell? ⟨Bx, 1, none⟩ = some (I p.2) := by simp [World.cell?, hbx]
      have hsW := hF.size
      gi_wp2_with (gi_at_builtin; refine wpListIn_append_own _ rfl _ _ 97 rfl w1.heap.size 67 i0 (.agg #[.int .i64 0, .int .i64 0]) 2 16 Try.underlying97 hi hi1 hi2 hi3 rfl (by decide) _ _ _ rfl (hrow.alloc _) ⟨W.heap.size, 0, none⟩ 1 1 [I p.1, I p.2] rfl rfl (cells_new W [I p.1, I p.2] 67) (by simp [Value.oneCell']) (by simp [maxLen]; omega) (by omega) (by simp; omega) ?_; intro v' w2 hown' hgrow _; obtain ⟨g', cap', rfl⟩ := ownsRow_succ hown'; obtain ⟨hv1, hv2, hr2, hk2, hb2⟩ := hv.appended (n₀ := wr.heap.size) (by decide) (row_mono hrow (by omega)) (by omega) (Nat.le_refl _) (row_mono hown' (by omega)) hgrow; have hc1 := hv1.cell; have hf1 := hv1.frozen)
      have hG : ∀ {a : World}, Frm w1.heap.size (· = wr.heap.size) a W → Frm w1.heap.size (· = wr.heap.size) a (w2.setCell ⟨wr.heap.size, 0, none⟩ (.slice (some ⟨g', 0, none⟩) (pre.length + 1) cap')) := fun h =>
        ((h.alloc hsW _).grown hgrow (by simp; omega) (fun j ej => .inl (hrow.lt j ej).1)).setCell (Or.inr rfl) _
      exact ⟨hk2.from _, (hG (Frm.refl _ _ _)).keeps1, ⟨_, hv2, by
        rw [flatP_snoc, List.length_append]
        exact hown'.kept (grownBy_setCell' w2 wr.heap.size _) (.inr (hv1.not_row (by decide) hown').symm), trivial⟩, hG hF⟩
    case done =>
      rintro D ys W hD rfl ⟨⟨v, hv, hrow, _⟩, hF⟩ hK
      have hFW : Frm wr.heap.size (fun _ => False) wr W := hF1.trans (hF.mono (by omega) (fun i h1 h2 => by omega))
      have hLW := hLr'.out.frm hFW (by omega) hbd (fun h => h) (fun h => h) (fun h => h) (fun h => h)
      have hLW' := Lib.hid hLW
      obtain ⟨⟨g1, g2, g3⟩, ⟨g4, g5, g6, g7⟩, ⟨g8, g9⟩, g10, g11, g12, g13⟩ := hLW
      have hc := hv.cell
      have hsW := hF.size
      have hval := stand_rt (wt := wt) hl hr hk0 hwt hap
      have hlen := stand_length (wt := wt) hl hr hk0 hap
      have hrow' : W.ownsRow w1.heap.size 67 2 v ((standR l r wt ap k).map (toRT (comU l r))).length (flatR ((standR l r wt ap k).map (toRT (comU l r)))) := by
        rw [flat_rt _ hval, List.length_map]; exact hrow
      have HROW := Lib.hid hrow'
      have hvr := vals_rt hval
      gi_wp2
      refine wpIn_mono (Q := fun e a' w' => e = .normal ∧ ∃ b8 x y, Rep (comU l r) (x, y) (topS pe.toNat (valsU l r wt ap k)) ∧ w'.cell? ⟨b8, 0, none⟩ = some (I x) ∧ w'.cell? ⟨b8, 1, none⟩ = some (I y) ∧ W.heap.size ≤ b8 ∧ b8 < w'.heap.size ∧
        Frm W.heap.size (fun i => v.ownBlock = some i) W w' ∧ a' = { tmps := #[.agg #[.pointer (some ⟨bd, od, none⟩), I l, I r], .pointer (some ⟨w.heap.size, 0, none⟩), .pointer (some ⟨w.heap.size + 1, 0, none⟩), .pointer (some ⟨w.heap.size + 1 + 1, 0, none⟩), .pointer (some ⟨w.heap.size + 1 + 1 + 1, 0, none⟩), I k, .pointer (some ⟨wr.heap.size, 0, none⟩), undef, .pointer (some ⟨b8, 0, none⟩), .agg #[I 0, I 1], .agg #[I 0, I 1], .pointer (some ⟨w.heap.size, 0, none⟩), .pointer (some ⟨bd, od, none⟩), .pointer (some ⟨bd, od, none⟩), .pointer (some ⟨bd, od + 4, none⟩), I ap, .pointer (some ⟨w.heap.size, 1, none⟩), I l, .pointer (some ⟨w.heap.size, 2, none⟩), I r, I (max l r), I (max l r + 1), I (min ap (max l r + 1)), I k, .bool true, I k, .agg #[.pointer (some ⟨bd, od, none⟩), I l, I r], I k, .func (.func 77) #[] #[.pointer (some ⟨wr.heap.size + 1 + 1, 0, none⟩), .pointer (some ⟨wr.heap.size + 1, 0, none⟩)], undef, undef, undef, undef, undef, v, .pointer (some ⟨w.heap.size, 0, none⟩), .pointer (some ⟨bd, od, none⟩), .pointer (some ⟨bd, od, none⟩), .pointer (some ⟨bd, od + 5, none⟩), I pe, Rat2 0 1, Rat2 x y, u42, u43, u44, u45, u46, u47, undef, undef, undef, undef, undef, undef, undef, undef, undef, undef, undef, undef, undef, undef, undef], defers := markOf D :: Ds.map markOf }) ?_ ?_
      · refine wpIn_region_plan (Plan.ons [0, 1, 2, 3, 4, 5, 6] (.two 7 (Plan.ons [8, 9] .fin) 8 (Plan.ons [7, 9] .fin))) [0, 1, 2, 3, 4, 5, 6]
          (fun W' => W'.cell? ⟨w.heap.size, 0, none⟩ = some (.pointer (some ⟨bd, od, none⟩)) ∧ W'.cell? ⟨bd, od + 5, none⟩ = some (I pe) ∧ W'.cell? ⟨w.heap.size + 1 + 1, 0, none⟩ = some (I 0) ∧ W'.cell? ⟨w.heap.size + 1 + 1, 1, none⟩ = some (I 1) ∧ W'.cell? ⟨wr.heap.size, 0, none⟩ = some v)
          [] rfl (by kernel_rfl) (by kernel_rfl) (fun c d v a w h => by cases h.1) ⟨g1, g13, g8, g9, hc⟩ ?_
        (refine ordQ_held (v) rfl rfl rfl rfl (fun W' hC' => ?_) (fun K hK => ?_); (focus (obtain ⟨q1, q2, q3, q4, q5⟩ := hC'; go_simp; try exact ⟨rfl, rfl⟩)); go_simp; refine hK _ ?_; clear hK K)
        (refine ordQ_held (.pointer (some ⟨w.heap.size, 0, none⟩)) rfl rfl rfl rfl (fun W' hC' => ?_) (fun K hK => ?_); (focus (obtain ⟨q1, q2, q3, q4, q5⟩ := hC'; go_simp; try exact ⟨rfl, rfl⟩)); go_simp; refine hK _ ?_; clear hK K)
        (refine ordQ_held (.pointer (some ⟨bd, od, none⟩)) rfl rfl rfl rfl (fun W' hC' => ?_) (fun K hK => ?_); (focus (obtain ⟨q1, q2, q3, q4, q5⟩ := hC'; go_simp; try exact ⟨rfl, rfl⟩)); go_simp; refine hK _ ?_; clear hK K)
        (refine ordQ_held (.pointer (some ⟨bd, od, none⟩)) rfl rfl rfl rfl (fun W' hC' => ?_) (fun K hK => ?_); (focus (obtain ⟨q1, q2, q3, q4, q5⟩ := hC'; go_simp; try exact ⟨rfl, rfl⟩)); go_simp; refine hK _ ?_; clear hK K)
        (refine ordQ_held (.pointer (some ⟨bd, od + 5, none⟩)) rfl rfl rfl rfl (fun W' hC' => ?_) (fun K hK => ?_); (focus (obtain ⟨q1, q2, q3, q4, q5⟩ := hC'; go_simp; try exact ⟨rfl, rfl⟩)); go_simp; refine hK _ ?_; clear hK K)
        (refine ordQ_held (I pe) rfl rfl rfl rfl (fun W' hC' => ?_) (fun K hK => ?_); (focus (obtain ⟨q1, q2, q3, q4, q5⟩ := hC'; go_simp; try exact ⟨rfl, rfl⟩)); go_simp; refine hK _ ?_; clear hK K)
        (refine ordQ_held (Rat2 0 1) rfl rfl rfl rfl (fun W' hC' => ?_) (fun K hK => ?_); (focus (obtain ⟨q1, q2, q3, q4, q5⟩ := hC'; go_simp; try exact ⟨rfl, rfl⟩)); go_simp; refine hK _ ?_; clear hK K)
        have hno : ∀ i, i < w1.heap.size → ¬ v.ownBlock = some i := fun i h1 h2 => by have := (hrow.lt i h2).1; omega
        have hno2 : ¬ v.ownBlock = some W.heap.size := fun h2 => by have := (hrow.lt _ h2).2; omega
        have HC5 : ∀ W' : World, Frm W.heap.size (fun i => v.ownBlock = some i) W W' → W'.cell? ⟨w.heap.size, 0, none⟩ = some (.pointer (some ⟨bd, od, none⟩)) ∧ W'.cell? ⟨bd, od + 5, none⟩ = some (I pe) ∧ W'.cell? ⟨w.heap.size + 1 + 1, 0, none⟩ = some (I 0) ∧ W'.cell? ⟨w.heap.size + 1 + 1, 1, none⟩ = some (I 1) ∧ W'.cell? ⟨wr.heap.size, 0, none⟩ = some v := fun W' hF2 =>
          ⟨(hF2.cell (by omega) (hno _ (by omega))).trans g1, (hF2.cell (by omega) (hno _ (by omega))).trans g13, (hF2.cell (by omega) (hno _ (by omega))).trans g8, (hF2.cell (by omega) (hno _ (by omega))).trans g9, (hF2.cell (by omega) (hno _ (by omega))).trans hc⟩
        refine ordQ_two rfl rfl rfl rfl (fun K hK => ?_) (fun K hK => ?_)
        · gi_wp2_with (refine And.intro trivial ?_; gi_at_call 63; refine callsIn_wide.2 ((largest_any hcd.1 hcd.2 v _ _ pe _ (by rw [List.length_map]; omega) hpe (World.ownsRow.drew HROW.out)).mono ?_); rintro r w2 ⟨⟨x, y, hR2, rfl⟩, hF2⟩)
          rw [hvr] at hR2
          have hFa : Frm W.heap.size (fun i => v.ownBlock = some i) W w2 := ⟨hF2.os, hF2.tape, hF2.output, hF2.size, hF2.block⟩
          have hza := hFa.size
          refine hK _ _ (fun _ => HC5 _ hFa) ?_
          clear hK K
          refine ordQ_hv rfl rfl rfl (fun K hK => ?_)
          gi_wp2
          have hFb := hFa.alloc hza (.cells #[I 0, I 0] 67)
          refine hK _ _ (fun _ => HC5 _ hFb) ?_
          clear hK K
          refine ordQ_hv rfl rfl rfl (fun K hK => ?_)
          gi_wp2
          have hFc := hFa.alloc hza (.cells #[I x, I y] 67)
          refine hK _ _ (fun _ => HC5 _ hFc) ?_
          refine ordQ_fin ⟨rfl, w2.heap.size, x, y, hR2, by simp [go_sem], by simp [go_sem], hza, by simp, hFc, rfl⟩
        · gi_wp2
          have hFa : Frm W.heap.size (fun i => v.ownBlock = some i) W (W.drew.alloc (.cells #[I 0, I 0] 67)) := ((Frm.refl _ _ W).drew).alloc (Nat.le_refl _) _
          refine hK _ _ (fun _ => HC5 _ hFa) ?_
          clear hK K
          refine ordQ_hv rfl rfl rfl (fun K hK => ?_)
          gi_wp2_with (refine And.intro trivial ?_; gi_at_call 63; refine callsIn_wide.2 ((largest_any hcd.1 hcd.2 v _ _ pe _ (by rw [List.length_map]; omega) hpe ((World.ownsRow.drew HROW.out).alloc _)).mono ?_); rintro r w2 ⟨⟨x, y, hR2, rfl⟩, hF2⟩)
          rw [hvr] at hR2
          have hF2' : Frm (W.heap.size + 1) (fun i => v.ownBlock = some i) (W.drew.alloc (.cells #[I 0, I 0] 67)) w2 := by
            have e : (W.drew.alloc (.cells #[I 0, I 0] 67)).heap.size = W.heap.size + 1 := by simp
            rw [← e]; exact hF2
          have hFb := hFa.trans (hF2'.mono (Nat.le_succ _) (fun _ _ h => h))
          have l1 := hF2'.cell (b := W.heap.size) (o := 0) (Nat.lt_succ_self _) hno2
          have l2 := hF2'.cell (b := W.heap.size) (o := 1) (Nat.lt_succ_self _) hno2
          have l3 := hF2'.frozen (b := W.heap.size) (o := 0) (Nat.lt_succ_self _) hno2
          have l4 := hF2'.frozen (b := W.heap.size) (o := 1) (Nat.lt_succ_self _) hno2
          have lz : W.heap.size < w2.heap.size := by have := hF2'.size; simp at this; omega
          simp [go_sem] at l1 l2 l3 l4
          refine hK _ _ (fun _ => HC5 _ hFb) ?_
          clear hK K
          refine ordQ_hv rfl rfl rfl (fun K hK => ?_)
          gi_wp2
          have hFc := (hFb.setCell (p := ⟨W.heap.size, 0, none⟩) (Or.inl (Nat.le_refl _)) (I x)).setCell (p := ⟨W.heap.size, 1, none⟩) (Or.inl (Nat.le_refl _)) (I y)
          refine hK _ _ (fun _ => HC5 _ hFc) ?_
          refine ordQ_fin ⟨rfl, W.heap.size, x, y, hR2, by simp [go_sem, l1, l2], by simp [go_sem, l1, l2], Nat.le_refl _, by simpa using lz, hFc, rfl⟩
      · rintro _ _ w3 ⟨rfl, b8, x8, y8, hR8, h80, h81, h82, h83, hF8, rfl⟩
        have hF83 : Frm wr.heap.size (fun _ => False) wr w3 := hFW.trans (hF8.mono (by omega) (fun i h1 h2 => by have := (hrow.lt i h2).1; omega))
        have n1 := (hF83.cell (o := 0) (b := w.heap.size + 1 + 1 + 1) hz3 (fun h => h)).trans m1
        have n2 := (hF83.cell (o := 1) (b := w.heap.size + 1 + 1 + 1) hz3 (fun h => h)).trans m2
        have n3 := (hF83.frozen (o := 0) (b := w.heap.size + 1 + 1 + 1) hz3 (fun h => h)).trans m3
        have n4 := (hF83.frozen (o := 1) (b := w.heap.size + 1 + 1 + 1) hz3 (fun h => h)).trans m4
        have hT := top_bd (pe := pe) hl hr hk0 hwt hap hpe
        have hBt := best_bd (pe := pe) hl hr hwt hap hpe k (by omega)
        have f1 := rep_le hcd.1 hR8 hT.2
        have f2 := rep_den_le hcd.1 hR8
        have f3 := rep_le hcd.1 hR hBt.2
        have f4 := rep_den_le hcd.1 hR
        have f5 : 0 ≤ x8 ∧ 1 ≤ y8 ∧ 0 ≤ x ∧ 1 ≤ y := ⟨hR8.1, hR8.2.1, hR.1, hR.2.1⟩
        have p1 := mul_bd f5.1 (show x8 ≤ 4000000000 by omega) (show 0 ≤ y by omega) (show y ≤ 80000 by omega)
        have p2 := mul_bd f5.2.2.1 (show x ≤ 4000000000 by omega) (show 0 ≤ y8 by omega) (show y8 ≤ 80000 by omega)
        have hcmp := compare_any x8 y8 x y w3 p1.1 (by omega) p2.1 (by omega)
        rw [cmp_rep hcd.1 hR8 hR] at hcmp
        have hci : (bestU l r wt ap pe k < topS pe.toNat (valsU l r wt ap k) ∧ cmpI (topS pe.toNat (valsU l r wt ap k)) (bestU l r wt ap pe k) = 1) ∨ (topS pe.toNat (valsU l r wt ap k) ≤ bestU l r wt ap pe k ∧ cmpI (topS pe.toNat (valsU l r wt ap k)) (bestU l r wt ap pe k) ≤ 0) := by
          unfold cmpI
          by_cases h1 : topS pe.toNat (valsU l r wt ap k) < bestU l r wt ap pe k
          · rw [if_pos h1]; right; omega
          · rw [if_neg h1]
            by_cases h2 : bestU l r wt ap pe k < topS pe.toNat (valsU l r wt ap k)
            · rw [if_pos h2]; left; omega
            · rw [if_neg h2]; right; omega
        generalize cmpI (topS pe.toNat (valsU l r wt ap k)) (bestU l r wt ap pe k) = c at hcmp hci
        have hne : ∀ i, v.ownBlock = some i → w1.heap.size ≤ i ∧ i ≠ D := fun i h => by
          refine ⟨(hrow.lt i h).1, fun e => ?_⟩
          subst e
          rcases hrow.2 with ⟨rfl, _⟩ | ⟨g, cap, cur, rfl, _, hgb, _⟩
          · simp [Value.ownBlock] at h
          · obtain rfl : g = i := by simpa [Value.ownBlock] using h
            rw [hgb] at hK; cases hK
        have hDlt := (Array.getElem?_eq_some_iff.1 hK).1
        have HCMP := Lib.hid hcmp
        clear hcmp
        have fin : ∀ w5 : World, Frm W.heap.size (fun i => i = w.heap.size + 1 + 1 + 1 ∨ v.ownBlock = some i) W w5 → Frm (w.heap.size + 4) (· = w.heap.size + 1 + 1 + 1) W0 w5 ∧ Marks (w.heap.size + 4) (D :: Ds) w5 := fun w5 h5 => by
          have hn2 : ∀ i, i < w1.heap.size → (i = w.heap.size + 1 + 1 + 1 ∨ v.ownBlock = some i) → i = w.heap.size + 1 + 1 + 1 := fun i h1 h2 => h2.resolve_right (fun h => by have := (hne i h).1; omega)
          refine ⟨(hFr.trans (hFW.mono (by omega) (fun _ _ h => h.elim))).trans (h5.mono (by omega) (fun i h1 h2 => hn2 i (by omega) h2)), ⟨List.nodup_cons.2 ⟨fun h => by have := hMk.lt D h; omega, hMk.1⟩, fun D' hD' => ?_⟩⟩
          rcases List.mem_cons.1 hD' with rfl | hD'
          · exact ⟨by omega, (h5.block _ hDlt (fun h => h.elim (fun h => by omega) (fun h => (hne _ h).2 rfl))).trans hK⟩
          · have := hMk.lt D' hD'
            have h6 := (hMk.2 D' hD').1
            exact ⟨h6, (h5.block _ (by omega) (fun h => by have := hn2 _ (by omega) h; omega)).trans ((hFW.block _ this (fun h => h)).trans (hMk.2 D' hD').2)⟩
        have hz3' : w.heap.size + 1 + 1 + 1 < w3.heap.size := by have := hF8.size; omega
        have hF8' : Frm W.heap.size (fun i => i = w.heap.size + 1 + 1 + 1 ∨ v.ownBlock = some i) W w3 := hF8.mono (Nat.le_refl _) (fun i _ h => .inr h)
        rcases hci with ⟨hgt, rfl⟩ | ⟨hle, hc0⟩
        · have hbest : max (bestU l r wt ap pe k) (topS pe.toNat (valsU l r wt ap k)) = topS pe.toNat (valsU l r wt ap k) := by omega
          gi_wp2_with (refine And.intro trivial ?_; gi_at_call 64; refine callsIn_wide.2 (HCMP.out.mono ?_); rintro r w4 ⟨rfl, hB4⟩; obtain ⟨hc4, hf4⟩ := bcell hB4; have hz4 := hB4.size)
          have h45 := (hF8'.then_ hB4 hF8.size).setCell (p := ⟨w.heap.size + 1 + 1 + 1, 0, none⟩) (Or.inr (Or.inl rfl)) (I x8) |>.setCell (p := ⟨w.heap.size + 1 + 1 + 1, 1, none⟩) (Or.inr (Or.inl rfl)) (I y8)
          obtain ⟨q1, q2⟩ := fin _ h45
          refine ⟨⟨D :: Ds, ?_⟩, ?measure⟩
          (repeat apply Exists.intro)
          refine ⟨?rel, rfl⟩
          case rel =>
            refine ⟨k + 1, by omega, rfl, ⟨x8, y8, by unfold bestU; rw [hbest]; exact hR8, by simp [go_sem, hc4, hz3', n1], by simp [go_sem, hc4, hz3', n2], by simp [go_sem, hf4, hz3', n3], by simp [go_sem, hf4, hz3', n4]⟩, q1, q2⟩
          case measure => simp [intOf]; omega
        · have hbest : max (bestU l r wt ap pe k) (topS pe.toNat (valsU l r wt ap k)) = bestU l r wt ap pe k := by omega
          gi_wp2_with (refine And.intro trivial ?_; gi_at_call 64; refine callsIn_wide.2 (HCMP.out.mono ?_); rintro r w4 ⟨rfl, hB4⟩; obtain ⟨hc4, hf4⟩ := bcell hB4; have hz4 := hB4.size)
          have h45 := hF8'.then_ hB4 hF8.size
          obtain ⟨q1, q2⟩ := fin _ h45
          refine ⟨⟨D :: Ds, ?_⟩, ?measure⟩
          (repeat apply Exists.intro)
          refine ⟨?rel, rfl⟩
          case rel =>
            refine ⟨k + 1, by omega, rfl, ⟨x, y, by unfold bestU; rw [hbest]; exact hR, by simp [hc4, hz3', n1], by simp [hc4, hz3', n2], by simp [hf4, hz3', n3], by simp [hf4, hz3', n4]⟩, q1, q2⟩
          case measure => simp [intOf]; omega
    case stop =>
      rintro D c pre W _ _ h _
      exact h.elim
  · have hkk : (min ap (max l r + 1)).toNat = k := by omega
    have hV : loadU l r own wt ap pe = bestU l r wt ap pe k + halfU l r own := by unfold loadU; rw [hkk]
    have hBt := best_bd (pe := pe) hl hr hwt hap hpe k (by omega)
    have hH := half_bd hl hr hown
    have f3 := rep_le hcd.1 hR hBt.2
    have f4 := rep_den_le hcd.1 hR
    have f5 : 0 ≤ x ∧ 1 ≤ y := ⟨hR.1, hR.2.1⟩
    have p0 := mul_bd hown.1 hown.2 (show 0 ≤ l + r by omega) (show l + r ≤ 400 by omega)
    have p1 := mul_bd p0.1 p0.2 (show 0 ≤ y by omega) (show y ≤ 80000 by omega)
    have hP := plus_rep hcd.1 hR (half_rep hl hr hown)
    rw [← hV] at hP
    have hplus := fun W' => plus_any x y (own * (l + r)) 2 W' (by omega) (by omega) (by omega) (by omega) (by omega) (by omega)
    generalize plusR x y (own * (l + r)) 2 = pq at hP hplus
    obtain ⟨pn, pd⟩ := pq
    have f6 := rep_le (M := 90000) hcd.1 hP (by omega)
    have f7 := rep_den_le hcd.1 hP
    have f8 : 0 ≤ pn ∧ 1 ≤ pd := ⟨hP.1, hP.2.1⟩
    have hlow := fun W' => lowest_any pn pd W' f8.1 (by omega) f8.2 (by omega)
    have hle := low_eq hcd.1 hP
    simp only [Prod.mk.injEq] at hle
    rw [hle.1, hle.2] at hlow
    have hw1 : IntKind.i64.wrap (l + r) = l + r := IntWalk.i64_in _ (by omega)
    have hw2 : IntKind.i64.wrap (own * (l + r)) = own * (l + r) := IntWalk.i64_in _ (by omega)
    have HP := Lib.hid hplus
    have HL := Lib.hid hlow
    clear hplus hlow hle hP f6 f7 f8 p1 hV
    gi_wp2
    refine wpIn_region_text [0, 1, 2, 3, 4, 5, 6, 7, 8, 9, 10, 11, 12, 13, 14, 15] rfl (by kernel_rfl) (by kernel_rfl) (fun _ d _ _ _ h => by cases d <;> exact h) ?_
    iterate 13 (refine ordT_li rfl rfl (fun K hK => ?_); go_simp; refine hK _ ?_; clear hK K)
    (refine ordT_hv rfl rfl rfl (fun K hK => ?_))
    gi_wp2_with (refine And.intro trivial ?_; gi_at_call 65; refine callsIn_wide.2 ((HP.out _).mono ?_); rintro e w2 ⟨rfl, hB2⟩)
    (refine ordT_hv rfl rfl rfl (fun K hK => ?_))
    gi_wp2_with (refine And.intro trivial ?_; gi_at_call 66; refine callsIn_wide.2 ((HL.out _).mono ?_); rintro e w3 ⟨rfl, hB3⟩)
    have hB23 : Below wr.heap.size wr w3 := (Below.mk (w := wr) (w' := w2) hB2.os hB2.tape hB2.output hB2.size hB2.block).trans (hB3.mono hB2.size)
    obtain ⟨hc3, hf3⟩ := bcell hB23
    have hz3 := hB23.size
    have l1 := (hc3 _ 0 hz1).trans b1
    have l2 := (hc3 _ 1 hz1).trans b2
    have l3 := (hf3 _ 0 hz1).trans b3
    have l4 := (hf3 _ 1 hz1).trans b4
    have hz4 : w.heap.size + 1 < w3.heap.size := by omega
    (refine ordT_hv rfl rfl rfl (fun K hK => ?_))
    gi_wp2
    refine ordT_nil ?_
    gi_wp2
    generalize loadU l r own wt ap pe / gcdI (loadU l r own wt ap pe) (comU l r) = va
    generalize comU l r / gcdI (loadU l r own wt ap pe) (comU l r) = vb
    have hW5 : Frm wr.heap.size (· = w.heap.size + 1) wr ((w3.setCell ⟨w.heap.size + 1, 0, none⟩ (I va)).setCell ⟨w.heap.size + 1, 1, none⟩ (I vb)) :=
      ((Frm.of_below (S := (· = w.heap.size + 1)) hB23 (Nat.le_refl _)).setCell (p := ⟨w.heap.size + 1, 0, none⟩) (Or.inr rfl) _).setCell (p := ⟨w.heap.size + 1, 1, none⟩) (Or.inr rfl) _
    have q1 : ((w3.setCell ⟨w.heap.size + 1, 0, none⟩ (I va)).setCell ⟨w.heap.size + 1, 1, none⟩ (I vb)).cell? ⟨w.heap.size + 1, 0, none⟩ = some (I va) := by simp [go_sem, l1, l2]
    have q2 : ((w3.setCell ⟨w.heap.size + 1, 0, none⟩ (I va)).setCell ⟨w.heap.size + 1, 1, none⟩ (I vb)).cell? ⟨w.heap.size + 1, 1, none⟩ = some (I vb) := by simp [go_sem, l1, l2]
    have q3 : w.heap.size + 1 < ((w3.setCell ⟨w.heap.size + 1, 0, none⟩ (I va)).setCell ⟨w.heap.size + 1, 1, none⟩ (I vb)).heap.size := by simpa using hz4
    generalize (w3.setCell ⟨w.heap.size + 1, 0, none⟩ (I va)).setCell ⟨w.heap.size + 1, 1, none⟩ (I vb) = w5 at *
    have hm5 := hMk.frm hW5 (Nat.le_refl _) (fun D hD h => by have := (hMk.2 D hD).1; omega)
    refine leavesM_marks (B := w.heap.size + 4) Ds _ hm5 fun W' hB' _ => ?_
    refine ⟨Rat2 va vb, ?_, rfl, ?_⟩
    · simp [results, Try.results40, go_sem, hB'.cell (p := ⟨w.heap.size + 1, 0, none⟩) (by simp), hB'.cell (p := ⟨w.heap.size + 1, 1, none⟩) (by simp), q1, q2]
    · have h1 : Below w.heap.size W0 wr := hFr.below (by omega) (by omega)
      have h2 : Below w.heap.size wr w5 := hW5.below (by omega) (by omega)
      exact ((hB0.trans h1).trans h2).trans (hB'.mono (by omega))
end Go.Proofs.Ytilmlgngnbokfaa
