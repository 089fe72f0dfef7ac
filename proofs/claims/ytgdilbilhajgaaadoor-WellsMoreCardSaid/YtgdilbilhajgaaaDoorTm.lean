/- WellsMore: the walk. -/
import Derived.Test.YtgdilbilhajgaaaDoorM1
namespace Go.Proofs.YtgdilbilhajgaaaDoor
set_option linter.unusedVariables false
set_option linter.unusedSimpArgs false
open Go Go.RowKit

section
variable {F : Fence} {n : Nat} {P : Program} {ops : Array Oper} {Q : Exit → Act → World → Prop}
/-- What is said to come ahead of an operation is among those that it waits for. -/
def preChk (ops : Array Oper) (pre : Nat → List Nat) : Bool := (List.range ops.size).all fun i => match ops[i]? with
  | some o => (pre i).all fun j => o.after.toList.any fun e => Region.binds .any e && (e.on == j)
  | none => true
/-- As wpIn_region_opsU; and what an operation handed back need not bear those that come ahead of it. -/
theorem wpIn_region_opsP {id : Nat} {a : Act} {w : World} (pre : Nat → List Nat) (last : Nat → Option Nat) (ds : List (Option Tmp)) (V : Nat → Value → World → Prop) (G : Nat → World → World → Prop) (C : World → Prop) (hro : F.round = none) (hm : P.follows .mixedOrders = true)
    (hchk : chkG ops = true) (hpre : preChk ops pre = true) (hds : ops.toList.map (·.dst) = ds) (hQ : ∀ c (d : Option Tmp) (v : Value) a w, Q (.panic c) (a.put d v) w → Q (.panic c) a w)
    (h0 : C w.drew) (hC : ∀ j W W', C W → G j W W' → C W') (hstab : ∀ i j v W W', i ≠ j → last i ≠ some j → j ∉ pre i → C W → V i v W → G j W W' → V i v W')
    (hop : opsAll (fun i o => ∀ (val : Nat → Value) W, C W → depAll (fun j => (last j = none ∨ last j = some i) → V j (val j) W) o.after.toList →
      ∀ K : Act → World → Prop, (∀ v w', G i W w' → V i v w' → K ((putD val ds 0 a).put o.dst v) w') → o.wpIn F n P (putD val ds 0 a) W K Q) ops.toList 0)
    (hfin : ∀ (val : Nat → Value) W, C W → depAll (fun i => last i = none → V i (val i) W) ((List.range ops.size).map fun i => ⟨i, .data⟩) → Q .normal (putD val ds 0 a) W) : (Code.region id ops true).wpIn F n P Q a w := by
  obtain ⟨c1, c2, c3, c4⟩ := chkG_spec hchk
  have hH : chkH ops = true := by
    simp only [chkG, Bool.and_eq_true, List.all_eq_true, List.mem_range] at hchk
    simp only [chkH, Bool.and_eq_true, List.all_eq_true, List.mem_range]
    refine ⟨hchk.1, fun j hj => ?_⟩
    have := hchk.2 j hj
    rw [Array.getElem?_eq_getElem hj] at this ⊢
    simp only [Bool.and_eq_true] at this
    exact this.2
  refine wpIn_region_joint ds (fun _ => undef) (fun l val W => C W ∧ (∀ i, l i = true → ∀ j ∈ pre i, l j = true) ∧ ∀ i, l i = true → (∀ j, last i = some j → l j = false) → V i (val i) W) hro hm hH hds hQ ⟨h0, (fun i h => by cases h), fun i h => by cases h⟩ (fun i o hi l val val' W hli hv hd hJ K hK => ⟨?_, ?_⟩) (fun l val W hall hJ => ?_)
  · have hg := c3 i o hi
    unfold Region.wanted
    rw [hg]
  · have hlt : i < ops.size := (Array.getElem?_eq_some_iff.1 hi).1
    have hgo := opsAll_get _ _ hop i o (by rw [Array.getElem?_toList]; exact hi)
    simp only [Nat.zero_add] at hgo
    have hpi : ∀ j ∈ pre i, l j = true := fun j hj => by
      simp only [preChk, List.all_eq_true, List.mem_range] at hpre
      have h1 := hpre i hlt
      rw [hi] at h1
      simp only [List.all_eq_true, List.any_eq_true, Bool.and_eq_true, beq_iff_eq] at h1
      obtain ⟨e, he, hb, rfl⟩ := h1 j hj
      exact (hd e (by simpa using he) hb).1
    refine hgo val' W hJ.1 (depAll_of _ (fun e he hb => ?_)) K (fun v w' hG hV => hK _ _ ⟨hC i W w' hJ.1 hG, fun k hk j hj => ?_, fun k hk hlast => ?_⟩)
    · obtain ⟨h1, h2⟩ := hd e (by simpa using he) hb
      intro hl
      rw [h2]
      refine hJ.2.2 _ h1 (fun j hj => ?_)
      rcases hl with hl | hl
      · rw [hl] at hj; cases hj
      · rw [hl] at hj; cases hj; exact hli
    · by_cases e : k = i
      · subst e
        simp [hpi j hj]
      · have hlk : l k = true := by simpa [e] using hk
        simp [hJ.2.1 k hlk j hj]
    · by_cases e : k = i
      · subst e; simpa using hV
      · simp only [e, if_false]
        have hlk : l k = true := by simpa [e] using hk
        refine hstab k i _ W w' e (fun h => ?_) (fun h => ?_) hJ.1 (hJ.2.2 k hlk (fun j hj => ?_)) hG
        · have := hlast i h
          simp at this
        · have := hJ.2.1 k hlk i h
          rw [hli] at this; cases this
        · have := hlast j hj
          simp only [Bool.or_eq_false_iff] at this
          exact this.2
  · refine hfin val W hJ.1 (depAll_of _ (fun e he _ hl => ?_))
    obtain ⟨i, hi, rfl⟩ := List.mem_map.1 he
    exact hJ.2.2 i (hall i (List.mem_range.1 hi)) (fun j hj => by rw [hl] at hj; cases hj)
end
-- the walk
section
variable {P : Program}
theorem wpList_append_litM (w : World) {ops : Array Oper} {rest : List Oper} {o : Oper} {a : Act} {Q : Exit → Act → World → Prop} (hgd : o.guard = none) (s x : Operand) (t : TypeId)
    (ho : o.op = .call { callee := .builtin .append, args := #[s, x], argTypes := #[t, t] })
    (e : TypeId) (i : TypeInfo) (z : Value) (size bytes : Nat) (ht : P.underlying t = some (.slice e)) (hi : P.info? e = some i) (hz : i.zero = some z)
    (hsize : i.size = size) (hby : i.bytes = bytes) (hzs : z.cells.size = size) (hsz : 0 < size)
    (b : Addr) (hs : a.eval s = .slice (some b) 0 0) (A : Option Addr) (m c : Nat) (news : List Value) (hx : a.eval x = .slice A m c) (hl : news.length = m * size) (hnews : 0 < m → ∃ ad, A = some ad ∧ ∀ j u, news[j]? = some u → w.cell? (ad.add j) = some u)
    (h63 : m ≤ maxLen) (hbytes : m * bytes ≤ 140737488355328)
    (h : ∀ v' w', (w'.ownsRow w.heap.size e size v' m news ∨ m = 0 ∧ v' = .slice (some b) 0 0) → w.grownBy w' none → wpList P ops Q rest (a.put o.dst v') w') : wpList P ops Q (o :: rest) a w :=
  wpList_plain hgd fun _ hK => by
    obtain ⟨v', w', hr, h2, h3⟩ := run_append_lit (P := P) w t o.type e i z size bytes ht hi hz hsize hby hzs hsz b A m c news hl hnews h63 hbytes
    unfold Oper.wp execOp
    simp only [ho, resolve, invoke, builtin, Sem.run_bind, Sem.run_pure, Result.andThen_ok, List.map_toArray, List.map_cons, List.map_nil, hs, hx, hr]
    exact hK _ _ (h v' w' h2 h3)
end
theorem info55M : (Tryd.prog.info? 55).map (fun i => (i.zero, i.size, i.bytes)) = some (some (.agg #[I 0, I 0]), 2, 16) := by kernel_rfl
theorem flat2_atM {W : World} {B : Nat} {A : Option Addr} {xs : List (Int × Int)} (h : Pairs W B A xs) : 0 < xs.length → ∃ ad, A = some ad ∧ ∀ j u, (flat2 xs)[j]? = some u → W.cell? (ad.add j) = some u := fun h0 => by
  obtain ⟨b, off, rfl, _, hc⟩ := h h0
  refine ⟨_, rfl, fun j u hj => ?_⟩
  have hj' : j < xs.length * 2 := by
    have := (List.getElem?_eq_some_iff.1 hj).1
    rwa [flat2_len] at this
  have hk : j / 2 < xs.length := by omega
  obtain ⟨c0, c1⟩ := hc (j / 2) hk
  obtain ⟨d0, d1⟩ := flat2_get xs (j / 2) hk
  rw [Addr.add_lit]
  rcases (by omega : j = j / 2 * 2 ∨ j = j / 2 * 2 + 1) with e | e
  · rw [e] at hj ⊢; rw [d0] at hj; cases hj; exact c0
  · rw [e] at hj ⊢; rw [d1] at hj; cases hj; rw [← Nat.add_assoc]; exact c1
/-- A copy of the mains whose limit at z is raised. -/
theorem raise_row {W : World} {base n : Nat} {v : Value} {m : List (Int × Int)} {b : Addr} {z : Nat} (h : W.ownsRow base 55 2 v m.length (flat2 m) ∨ m.length = 0 ∧ v = .slice (some b) 0 0) (hz : z < m.length) :
    ∃ g c, v = .slice (some ⟨g, 0, none⟩) m.length c ∧ g < W.heap.size ∧ base ≤ g ∧ W.cell? ⟨g, z * 2 + 1, none⟩ = some (I (limW m z)) ∧ W.frozen? ⟨g, z * 2 + 1, none⟩ = false ∧
      ∀ u, Pairs (W.setCell ⟨g, z * 2 + 1, none⟩ (I u)) W.heap.size (some ⟨g, 0, none⟩) (raiseW m z u) := by
  rcases h with h | ⟨h, _⟩
  · rcases h.2 with ⟨h1, h2⟩ | ⟨g, cap, cur, rfl, h3, h4, _⟩
    · omega
    · have hcell : ∀ k (hk : k < m.length), W.cell? ⟨g, k * 2, none⟩ = some (I m[k].1) ∧ W.cell? ⟨g, k * 2 + 1, none⟩ = some (I m[k].2) := fun k hk => by
        obtain ⟨d0, d1⟩ := flat2_get m k hk
        have c0 := h.cells (g := g) rfl _ _ d0
        have c1 := h.cells (g := g) rfl _ _ d1
        rw [Addr.add_lit, Nat.zero_add] at c0 c1
        exact ⟨c0, c1⟩
      have hlz : limW m z = m[z].2 := by simp [limW, List.getD, hz]
      have hpz : parW m z = m[z].1 := by simp [parW, List.getD, hz]
      refine ⟨g, cap, rfl, (h.lt g rfl).2, h3, by rw [hlz]; exact (hcell z hz).2, by simp [World.frozen?, h4], fun u _ => ⟨g, 0, rfl, (h.lt g rfl).2, fun k hk => ?_⟩⟩
      have hk' : k < m.length := by rw [raise_len] at hk; exact hk
      obtain ⟨c0, c1⟩ := hcell k hk'
      rw [Nat.zero_add]
      by_cases e : z = k
      · subst e
        have e1 : (raiseW m z u)[z] = (parW m z, u) := by simp [raiseW]
        rw [e1]
        refine ⟨?_, by simp [go_sem, c1]⟩
        rw [World.cell?_setCell_other _ _ _ _ (by simp), c0, hpz]
      · have e1 : (raiseW m z u)[k] = m[k] := by simp [raiseW, List.getElem_set, e]
        rw [e1]
        constructor
        · rw [World.cell?_setCell_other _ _ _ _ (by simp; try omega)]; exact c0
        · rw [World.cell?_setCell_other _ _ _ _ (by simp; try omega)]; exact c1
  · omega
def mV (bv : Value) (N : Nat) (l : List (Int × Int × Int)) (r : Int × Int × Int) : Nat → Value → World → Prop
  | 0, v, _ => ∃ g, v = .slice (some ⟨g, 0, none⟩) 0 0
  | 1, v, _ => v = bv
  | 2, v, W => W.ownsRow N 42 3 v l.length (flat3 l) ∨ (l.length = 0 ∧ ∃ g, v = .slice (some ⟨g, 0, none⟩) 0 0)
  | 3, v, _ => v = .agg #[I r.1, I r.2.1, I r.2.2]
  | 4, v, W => ∃ g, v = .slice (some ⟨g, 0, none⟩) 1 1 ∧ RowAt W 0 g [I r.1, I r.2.1, I r.2.2]
  | 5, v, W => ∃ A c, v = .slice A (l.length + 1) c ∧ Threes W W.heap.size A (l ++ [r])
  | 6, v, W => ∃ A c, v = .slice A (l.length + 1) c ∧ Threes W W.heap.size A (l ++ [r])
  | _, _, _ => True
def mLast (i : Nat) : Option Nat := if i = 2 ∨ i = 4 then some 5 else none
def mPre (i : Nat) : List Nat := if i = 6 then [5] else []
theorem mV_stab (bv : Value) (N : Nat) (l : List (Int × Int × Int)) (r : Int × Int × Int) (i j : Nat) (v : Value) (W W' : World) (hij : i ≠ j) (hl : mLast i ≠ some j) (hp : j ∉ mPre i) (h : mV bv N l r i v W) (hB : Below (if j = 5 then N else W.heap.size) W W') : mV bv N l r i v W' := by
  rcases i with _ | _ | _ | _ | _ | _ | _ | i
  case succ.succ.zero =>
    rw [if_neg (fun e => hl (by rw [e]; rfl))] at hB
    exact h.imp (fun h => grown_own h hB) id
  case succ.succ.succ.succ.zero =>
    rw [if_neg (fun e => hl (by rw [e]; rfl))] at hB
    obtain ⟨g, h1, h2⟩ := h
    exact ⟨g, h1, h2.call hB⟩
  case succ.succ.succ.succ.succ.zero =>
    rw [if_neg (fun e => hij e.symm)] at hB
    obtain ⟨A, c, h1, h2⟩ := h
    exact ⟨A, c, h1, (h2.below hB).more hB.size⟩
  case succ.succ.succ.succ.succ.succ.zero =>
    rw [if_neg (fun e => hp (by rw [e]; decide))] at hB
    obtain ⟨A, c, h1, h2⟩ := h
    exact ⟨A, c, h1, (h2.below hB).more hB.size⟩
  all_goals exact h
set_option maxRecDepth 100000 in
set_option maxHeartbeats 32000000 in
theorem more_err (A B : Option Addr) (c d : Nat) (m : List (Int × Int)) (l : List (Int × Int × Int)) (r : Int × Int × Int) (main wh by_ : Int) (z : Nat) (sl : List (Int × Int)) (x : List Int) (n0 n2 u v : Int) (np nq : Nat) (w : World) (eh : Int)
    (hA : ∀ W, Below w.heap.size w W → Calls Tryd.prog 12 #[] W fun e w' => e = .returned (.bool true) ∧ Below W.heap.size W w')
    (hG : ∀ W, Calls Tryd.prog 11 #[.slice A m.length c, .slice B l.length d, I 10] W fun e w' => e = .returned (.bool false) ∧ W = w')
    (hF1 : ∀ W, Below w.heap.size w W → Calls Tryd.prog 18 #[.slice A m.length c, .slice B l.length d] W fun e w' => ∃ A' c', e = .returned (.tuple #[.slice A' m.length c', I 0]) ∧ Pairs w' w'.heap.size A' sl ∧ Below W.heap.size W w')
    (hMA : ∀ W, Below w.heap.size w W → Calls Tryd.prog 19 #[.slice A m.length c] W fun e w' => e = .returned (.bool true) ∧ Below W.heap.size W w')
    (hO1 : ∀ W, Below w.heap.size w W → Calls Tryd.prog 23 #[.slice A m.length c, .slice B l.length d] W fun e w' => ∃ A' c' v2, e = .returned (.tuple #[.slice A' x.length c', v2, I 0]) ∧ Ints w' w'.heap.size A' x ∧ Below W.heap.size W w')
    (hX1 : ∀ W, Below w.heap.size w W → Calls Tryd.prog 15 #[.slice A m.length c, .slice B l.length d] W fun e w' => e = .returned (.tuple #[I n0, I 0]) ∧ Below W.heap.size W w')
    (heh : eh = 1 ∨ eh = 6) (hF2 : ∀ W B' c', Below w.heap.size w W → Threes W W.heap.size B' (l ++ [r]) → Calls Tryd.prog 18 #[.slice A m.length c, .slice B' (l.length + 1) c'] W fun e w' => e = .returned (.tuple #[nilS, I eh]) ∧ Below W.heap.size W w')
    (hX3 : ∀ W H ch, Below w.heap.size w W → Pairs W W.heap.size H (raiseW m z (min 1600 (limW m z + by_))) → Calls Tryd.prog 15 #[.slice H m.length ch, .slice B l.length d] W fun e w' => e = .returned (.tuple #[I n2, I 0]) ∧ Below W.heap.size W w')
    (hP1 : ∀ W, Below w.heap.size w W → Calls Tryd.prog 13 #[.slice A m.length c, .slice B l.length d, I main] W fun e w' => ∃ A' c', e = .returned (.tuple #[.slice A' np c', I u]) ∧ Below W.heap.size W w')
    (hP2 : ∀ W H ch, Below w.heap.size w W → Pairs W W.heap.size H (raiseW m z (min 1600 (limW m z + by_))) → Calls Tryd.prog 13 #[.slice H m.length ch, .slice B l.length d, I main] W fun e w' => ∃ A' c', e = .returned (.tuple #[.slice A' nq c', I v]) ∧ Below W.heap.size W w')
    (hcomb : (u = 2 ∧ v = 2) ∨ (u = 4 ∧ v = 4) ∨ (u = 0 ∧ v = 4) ∨ (u = 0 ∧ v = 0 ∧ np ≤ nq)) (hn02 : n2 ≤ n0) (hz : wh % (m.length : Int) = (z : Int)) (hzm : z < m.length) (hlz : 0 ≤ limW m z ∧ limW m z ≤ 1600) (hsl : sl.length = m.length) (hm1 : 1 ≤ m.length) (hm16 : m.length ≤ 16) (hl12 : l.length < 12) (hx100 : x.length ≤ 100)
    (hw0 : 0 ≤ wh) (hw1 : wh ≤ 255) (hb0 : 0 ≤ by_) (hb1 : by_ ≤ 255) (hm : Pairs w w.heap.size A m) (hl : Threes w w.heap.size B l) (hnp : np ≤ 100) (hnq : nq ≤ 100) :
    Calls Tryd.prog 9 #[.slice A m.length c, .slice B l.length d, .agg #[I r.1, I r.2.1, I r.2.2], I main, .int .u8 wh, .int .u8 by_] w fun e w' => e = .returned (.bool true) ∧ Below w.heap.size w w' := by
  have HA := Lib.hid hA; have HG := Lib.hid hG; have HF1 := Lib.hid hF1; have HMA := Lib.hid hMA; have HO1 := Lib.hid hO1; have HX1 := Lib.hid hX1; have HF2 := Lib.hid hF2; have HX3 := Lib.hid hX3; have HP1 := Lib.hid hP1; have HP2 := Lib.hid hP2; have HCOMB := Lib.hid hcomb; have HM := Lib.hid hm; have HL := Lib.hid hl
  clear hA hG hF1 hMA hO1 hX1 hF2 hX3 hP1 hP2 hcomb hm hl
  have HN02 := Lib.hid hn02
  have hn02b : decide (n0 < n2) = false := decide_eq_false (by omega)
  clear hn02
  obtain ⟨i0, hi0, hi1, hi2, hi3⟩ := info_parts info55M
  obtain ⟨j0, hj0, hj1, hj2, hj3⟩ := info_parts info42
  have hu22 : Tryd.prog.underlying 22 = some (.slice 55) := Tryd.underlying22
  have hu23 : Tryd.prog.underlying 23 = some (.slice 42) := Tryd.underlying23
  have HU := Lib.hid hu22; have HI0 := Lib.hid hi0; have HI1 := Lib.hid hi1; have HI2 := Lib.hid hi2; have HI3 := Lib.hid hi3
  have HU2 := Lib.hid hu23; have HJ0 := Lib.hid hj0; have HJ1 := Lib.hid hj1; have HJ2 := Lib.hid hj2; have HJ3 := Lib.hid hj3
  clear hu22 hi0 hi1 hi2 hi3 hu23 hj0 hj1 hj2 hj3
  have hlb : decide ((12 : Int) ≤ (l.length : Int)) = false := decide_eq_false (by omega)
  have hlb2 : decide (12 ≤ l.length) = false := decide_eq_false (by omega)
  obtain ⟨lz, hlze⟩ : ∃ lz, lz = limW m z := ⟨_, rfl⟩
  rw [← hlze] at HX3 HP2 hlz
  have hwr1 : IntKind.i64.wrap (lz + by_) = lz + by_ := IntWalk.i64_in _ (by omega)
  obtain ⟨r0, r1, r2⟩ := r
  have HLZ := Lib.hid hlze
  clear hlze
  have tokP : True := trivial
  go_enter Tryd.func9, Tryd.ntmps9
  have hBx : Below w.heap.size w (w.alloc (.cells #[I r0, I r1, I r2] 42)) := (Below.refl _ _).alloc (Nat.le_refl _) _
  have HBXC : Hid (∀ W, Below (w.heap.size + 1) (w.alloc (.cells #[I r0, I r1, I r2] 42)) W → Below w.heap.size w W ∧ W.cell? ⟨w.heap.size, 0, none⟩ = some (I r0) ∧ W.cell? ⟨w.heap.size, 1, none⟩ = some (I r1) ∧ W.cell? ⟨w.heap.size, 2, none⟩ = some (I r2) ∧ w.heap.size + 1 ≤ W.heap.size) := Lib.hid fun W hW => by
    refine ⟨hBx.trans (hW.mono (by omega)), ?_, ?_, ?_, by have := hW.size; simpa using this⟩
    iterate 3 (rw [hW.cell (p := ⟨w.heap.size, _, none⟩) (by simp)]; simp [go_sem])
  have hB0 : Below (w.heap.size + 1) (w.alloc (.cells #[I r0, I r1, I r2] 42)) (w.alloc (.cells #[I r0, I r1, I r2] 42)) := Below.refl _ _
  go_wp2_with (first
    | (go_at_call 11; refine (HG.out _).mono ?_; rintro e w0 ⟨rfl, rfl⟩)
    | (go_at_call 18; refine (HF1.out _ hBx).mono ?_; rintro e w1 ⟨A1, c1, rfl, h1, hB1⟩; have hC1 := hB0.trans (hB1.mono (by simp)); obtain ⟨b1, _, _, _, z1⟩ := HBXC.out _ hC1; have HS1 := Lib.hid h1; clear h1)
    | (go_at_call 19; refine (HMA.out _ b1).mono ?_; rintro e w2 ⟨rfl, hB2⟩; have hC2 := hC1.trans (hB2.mono z1); obtain ⟨b2, _, _, _, z2⟩ := HBXC.out _ hC2; have HS2 := Lib.hid ((HS1.out.below hB2).more hB2.size); clear HS1)
    | (go_at_call 23; refine (HO1.out _ b2).mono ?_; rintro e w3 ⟨A3, c3, v3, rfl, h3, hB3⟩; have hC3 := hC2.trans (hB3.mono z2); obtain ⟨b3, _, _, _, z3⟩ := HBXC.out _ hC3; have HS3 := Lib.hid ((HS2.out.below hB3).more hB3.size); have HV3 := Lib.hid h3; clear h3 HS2)
    | (go_at_call 15; refine (HX1.out _ b3).mono ?_; rintro e w4 ⟨rfl, hB4⟩; have hC4 := hC3.trans (hB4.mono z3); obtain ⟨b4, q0, q1, q2, z4⟩ := HBXC.out _ hC4; have HS4 := Lib.hid ((HS3.out.below hB4).more hB4.size); have HV4 := Lib.hid ((HV3.out.below hB4).more hB4.size); clear HS3 HV3)
    | fail)
  have HLR := Lib.hid (HL.out.below b4)
  refine (wpIn_wide (n := 9)).1 ?_
  refine wpIn_region_opsP mPre mLast [some 92, some 93, some 94, some 95, some 96, some 97, some 20] (mV (.slice B l.length d) w4.heap.size l (r0, r1, r2)) (fun j W W' => Below (if j = 5 then w4.heap.size else W.heap.size) W W') (fun W => Below w4.heap.size w4 W) rfl (by kernel_rfl) (by kernel_rfl) (by kernel_rfl) (by kernel_rfl) (fun _ d _ _ _ h => by cases d <;> exact h) (Below.refl _ _).drew
    (fun j W W' h hG => by
      by_cases e : j = 5
      · rw [if_pos e] at hG; exact h.trans hG
      · rw [if_neg e] at hG; exact h.trans (hG.mono h.size)) (fun i j v W W' hij hlj hpj _ h hG => mV_stab _ _ _ _ i j v W W' hij hlj hpj h hG) ?_ ?_
  · refine ⟨?_, ?_, ?_, ?_, ?_, ?_, ?_, trivial⟩
    · (intro val W hC hd K hK; have HC := Lib.hid hC; have HD := Lib.hid hd; have HK := Lib.hid hK; clear hC hd hK; simp only [putD, Act.put, List.setIfInBounds_toArray, List.set_cons_succ, List.set_cons_zero, Nat.zero_add, Nat.reduceAdd] at HK ⊢)
      gi_wp2
      exact HK.out _ _ ((Below.refl _ _).alloc (Nat.le_refl _) _) ⟨_, rfl⟩
    · (intro val W hC hd K hK; have HC := Lib.hid hC; have HD := Lib.hid hd; have HK := Lib.hid hK; clear hC hd hK; simp only [putD, Act.put, List.setIfInBounds_toArray, List.set_cons_succ, List.set_cons_zero, Nat.zero_add, Nat.reduceAdd] at HK ⊢)
      gi_wp2
      exact HK.out _ _ (Below.refl _ _) rfl
    · (intro val W hC hd K hK; have HC := Lib.hid hC; have HD := Lib.hid hd; have HK := Lib.hid hK; clear hC hd hK; simp only [putD, Act.put, List.setIfInBounds_toArray, List.set_cons_succ, List.set_cons_zero, Nat.zero_add, Nat.reduceAdd] at HK ⊢)
      obtain ⟨g1, e1⟩ := HD.out.1 (.inl rfl)
      have e2 : val 1 = .slice B l.length d := HD.out.2.1 (.inl rfl)
      rw [e1, e2] at HK ⊢
      have HTH := Lib.hid (HL.out.below (b4.trans (HC.out.mono b4.size)))
      have HZ := Lib.hid HC.out.size
      clear e1 e2 HD
      refine opIn_append_lit rfl W _ _ 23 rfl 42 j0 (.agg #[I 0, I 0, I 0]) 3 24 HU2.out HJ0.out HJ1.out HJ2.out HJ3.out rfl (by decide) ⟨g1, 0, none⟩ rfl B l.length d (flat3 l) rfl (flat3_len l) (flat3_at HTH.out) (by unfold maxLen; omega) (by omega) ?_
      intro v' w' hown hgrow
      exact HK.out _ _ (grown_below hgrow (Nat.le_refl _) (by simp)) (hown.imp (fun h => own_base h HZ.out) (fun h => ⟨h.1, g1, h.2⟩))
    · (intro val W hC hd K hK; have HC := Lib.hid hC; have HD := Lib.hid hd; have HK := Lib.hid hK; clear hC hd hK; simp only [putD, Act.put, List.setIfInBounds_toArray, List.set_cons_succ, List.set_cons_zero, Nat.zero_add, Nat.reduceAdd] at HK ⊢)
      obtain ⟨_, f0, f1, f2, _⟩ := HBXC.out W (hC4.trans (HC.out.mono z4))
      gi_wp2
      exact HK.out _ _ (Below.refl _ _) rfl
    · (intro val W hC hd K hK; have HC := Lib.hid hC; have HD := Lib.hid hd; have HK := Lib.hid hK; clear hC hd hK; simp only [putD, Act.put, List.setIfInBounds_toArray, List.set_cons_succ, List.set_cons_zero, Nat.zero_add, Nat.reduceAdd] at HK ⊢)
      have e1 : val 3 = .agg #[I r0, I r1, I r2] := HD.out.1 (.inl rfl)
      rw [e1] at HK ⊢
      gi_wp2
      exact HK.out _ _ ((Below.refl _ _).alloc (Nat.le_refl _) _) ⟨_, rfl, Nat.zero_le _, by simp, fun k hk => by rcases k with _ | _ | _ | k <;> first | (simp [go_sem]; done) | (simp at hk; omega)⟩
    · (intro val W hC hd K hK; have HC := Lib.hid hC; have HD := Lib.hid hd; have HK := Lib.hid hK; clear hC hd hK; simp only [putD, Act.put, List.setIfInBounds_toArray, List.set_cons_succ, List.set_cons_zero, Nat.zero_add, Nat.reduceAdd] at HK ⊢)
      have h3 : W.ownsRow w4.heap.size 42 3 (val 2) l.length (flat3 l) ∨ (l.length = 0 ∧ ∃ g, val 2 = .slice (some ⟨g, 0, none⟩) 0 0) := HD.out.1 (.inr rfl)
      obtain ⟨g9, e9, h9⟩ : ∃ g, val 4 = .slice (some ⟨g, 0, none⟩) 1 1 ∧ RowAt W 0 g [I r0, I r1, I r2] := HD.out.2.1 (.inr rfl)
      have H9 := Lib.hid h9
      have HZ := Lib.hid HC.out.size
      have hfl : Hid (flat3 (l ++ [(r0, r1, r2)]) = flat3 l ++ [I r0, I r1, I r2]) := Lib.hid (flat3_snoc l _)
      rcases h3 with h3 | ⟨hl0', g3, e3⟩
      · generalize val 2 = v3 at *
        rw [e9] at HK ⊢
        have H3 := Lib.hid h3
        clear e9 h9 HD h3
        refine opIn_append_own rfl W _ _ 23 rfl w4.heap.size 42 j0 (.agg #[I 0, I 0, I 0]) 3 24 HU2.out HJ0.out HJ1.out HJ2.out HJ3.out rfl (by decide) v3 l.length (flat3 l) rfl H3.out ⟨g9, 0, none⟩ 1 1 [I r0, I r1, I r2] rfl rfl H9.out.src (by simp [Value.oneCell']) (by unfold maxLen; omega) (by omega) HZ.out ?_
        intro v' w' hown hgrow _
        refine HK.out _ _ (grown_below hgrow HZ.out (fun k hk => (H3.out.lt k hk).1)) ?_
        rw [← hfl.out] at hown
        exact threes_own (by simp) hown
      · rw [e3, e9] at HK ⊢
        have hle : Hid (l = []) := Lib.hid (List.eq_nil_of_length_eq_zero hl0')
        have HL0 := Lib.hid hl0'
        clear e3 e9 h9 HD hl0'
        refine opIn_append_grows rfl W _ _ 23 rfl 42 j0 (.agg #[I 0, I 0, I 0]) 3 24 HU2.out HJ0.out HJ1.out HJ2.out HJ3.out rfl (by decide) ⟨g3, 0, none⟩ 0 0 [] rfl rfl (fun j u h => by simp at h) ⟨g9, 0, none⟩ 1 1 [I r0, I r1, I r2] rfl rfl H9.out.src (by decide) (by decide) (by decide) ?_
        intro v' w' hown hgrow
        refine HK.out _ _ (grown_below hgrow HZ.out (fun k hk => by cases hk)) ?_
        have e4 : flat3 (l ++ [(r0, r1, r2)]) = [] ++ [I r0, I r1, I r2] := by rw [hfl.out, hle.out]; rfl
        rw [← e4] at hown
        obtain ⟨A', c', e', h'⟩ := threes_own (by rw [hle.out]; rfl) hown
        exact ⟨A', c', by rw [e', HL0.out], h'⟩
    · (intro val W hC hd K hK; have HC := Lib.hid hC; have HD := Lib.hid hd; have HK := Lib.hid hK; clear hC hd hK; simp only [putD, Act.put, List.setIfInBounds_toArray, List.set_cons_succ, List.set_cons_zero, Nat.zero_add, Nat.reduceAdd] at HK ⊢)
      obtain ⟨A5, c5, e5, h5⟩ : ∃ (A : Option Addr) (c : Nat), val 5 = .slice A (l.length + 1) c ∧ Threes W W.heap.size A (l ++ [(r0, r1, r2)]) := HD.out.1 (.inl rfl)
      rw [e5] at HK ⊢
      gi_wp2
      exact HK.out _ _ (Below.refl _ _) ⟨_, _, rfl, h5⟩
  intro val W hC hd
  obtain ⟨A6, c6, e6, h6⟩ : ∃ (A : Option Addr) (c : Nat), val 6 = .slice A (l.length + 1) c ∧ Threes W W.heap.size A (l ++ [(r0, r1, r2)]) := hd.2.2.2.2.2.2.1 rfl
  simp only [putD, Act.put, List.setIfInBounds_toArray, List.set_cons_succ, List.set_cons_zero, Nat.zero_add, Nat.reduceAdd]
  rw [e6]
  have HAL := Lib.hid h6
  have hBW := b4.trans (hC.mono b4.size)
  have HS5 := Lib.hid ((HS4.out.below hC).more hC.size)
  have HV5 := Lib.hid ((HV4.out.below hC).more hC.size)
  generalize val 0 = y0 at *
  generalize val 1 = y1 at *
  generalize val 2 = y2 at *
  generalize val 3 = y3 at *
  generalize val 4 = y4 at *
  generalize val 5 = y5 at *
  clear hd e6 h6 hC HS4 HV4 q0 q1 q2 HLR HBXC hC1 hC2 hC3 hC4 b1 b2 b3 b4 hB0 hBx
  go_wp2_with (first
    | (go_at_call 18; refine (HF2.out _ _ _ hBW HAL.out).mono ?_; rintro e WW ⟨rfl, hBv⟩; have hBT := hBW.trans (hBv.mono hBW.size); rcases heh with rfl | rfl)
    | (at_builtin; have hBa : Below WW.heap.size WW (WW.alloc (.cells #[] 55)) := (Below.refl _ _).alloc (Nat.le_refl _) _; have hBaw := hBT.trans (hBa.mono hBT.size); have HAT := Lib.hid (flat2_atM (HM.out.below hBaw)); refine wpList_append_litM _ rfl _ _ 22 rfl 55 i0 (.agg #[I 0, I 0]) 2 16 HU.out HI0.out HI1.out HI2.out HI3.out rfl (by decide) _ rfl A m.length c (flat2 m) rfl (flat2_len m) HAT.out (by unfold maxLen; omega) (by omega) ?_; intro v6 w6 hown hgrow; have hB6 : Below w.heap.size w w6 := hBaw.trans (grown_below hgrow (by have := hBaw.size; omega) (fun g e => by cases e)); obtain ⟨gh, ch, rfl, hgz, hgb, hgc, hgf, hgr⟩ := raise_row (n := 0) hown hzm; rw [← HLZ.out] at hgc; have HGR := Lib.hid hgr; have hghw : w.heap.size ≤ gh := (by have := hBaw.size; omega); clear hgr hown hgrow HAT hBa hBaw)
    | (go_at_call 15; have hB7 : Below w.heap.size w (w6.setCell ⟨gh, z * 2 + 1, none⟩ (I (min 1600 (lz + by_)))) := hB6.setCell hghw _; have HPR : Hid (Pairs (w6.setCell ⟨gh, z * 2 + 1, none⟩ (I (min 1600 (lz + by_)))) (w6.setCell ⟨gh, z * 2 + 1, none⟩ (I (min 1600 (lz + by_)))).heap.size (some ⟨gh, 0, none⟩) (raiseW m z (min 1600 (lz + by_)))) := Lib.hid (by simpa [World.setCell] using HGR.out (min 1600 (lz + by_))); refine (HX3.out _ _ _ hB7 HPR.out).mono ?_; rintro e w8 ⟨rfl, hB8⟩; have HPR8 := Lib.hid ((HPR.out.below hB8).more hB8.size); have hBw8 := hB7.trans (hB8.mono hB7.size); clear HPR HGR)
    | (go_at_call 13; have _t := tokP; refine (HP1.out _ hBw8).mono ?_; rintro e w9 ⟨A9, c9, rfl, hB9⟩; have HPR9 := Lib.hid ((HPR8.out.below hB9).more hB9.size); have hBw9 := hBw8.trans (hB9.mono hBw8.size); clear HPR8 tokP)
    | (go_at_call 13; refine (HP2.out _ _ _ hBw9 HPR9.out).mono ?_; rintro e w10 ⟨A10, c10, rfl, hB10⟩; have hBw10 := hBw9.trans (hB10.mono hBw9.size); clear HPR9; rcases HCOMB.out with ⟨rfl, rfl⟩ | ⟨rfl, rfl⟩ | ⟨rfl, rfl⟩ | ⟨rfl, rfl, hle⟩ <;> (try (have hleb : decide ((np : Int) ≤ (nq : Int)) = true := decide_eq_true (by omega); have hleb2 : decide (np ≤ nq) = true := decide_eq_true hle; clear hle)))
    | (go_at_call 12; refine (HA.out _ hBw10).mono ?_; rintro e w11 ⟨rfl, hB11⟩)
    | fail)
  all_goals go_ret
  all_goals exact ⟨rfl, hBw10.trans (hB11.mono hBw10.size)⟩
set_option maxRecDepth 100000 in
set_option maxHeartbeats 32000000 in
theorem more_ok (A B : Option Addr) (c d : Nat) (m : List (Int × Int)) (l : List (Int × Int × Int)) (r : Int × Int × Int) (main wh by_ : Int) (z : Nat) (sl tl : List (Int × Int)) (x y : List Int) (n0 n1 n2 u v : Int) (np nq : Nat) (w : World)
    (hA : ∀ W, Below w.heap.size w W → Calls Tryd.prog 12 #[] W fun e w' => e = .returned (.bool true) ∧ Below W.heap.size W w')
    (hG : ∀ W, Calls Tryd.prog 11 #[.slice A m.length c, .slice B l.length d, I 10] W fun e w' => e = .returned (.bool false) ∧ W = w')
    (hF1 : ∀ W, Below w.heap.size w W → Calls Tryd.prog 18 #[.slice A m.length c, .slice B l.length d] W fun e w' => ∃ A' c', e = .returned (.tuple #[.slice A' m.length c', I 0]) ∧ Pairs w' w'.heap.size A' sl ∧ Below W.heap.size W w')
    (hMA : ∀ W, Below w.heap.size w W → Calls Tryd.prog 19 #[.slice A m.length c] W fun e w' => e = .returned (.bool true) ∧ Below W.heap.size W w')
    (hO1 : ∀ W, Below w.heap.size w W → Calls Tryd.prog 23 #[.slice A m.length c, .slice B l.length d] W fun e w' => ∃ A' c' v2, e = .returned (.tuple #[.slice A' x.length c', v2, I 0]) ∧ Ints w' w'.heap.size A' x ∧ Below W.heap.size W w')
    (hX1 : ∀ W, Below w.heap.size w W → Calls Tryd.prog 15 #[.slice A m.length c, .slice B l.length d] W fun e w' => e = .returned (.tuple #[I n0, I 0]) ∧ Below W.heap.size W w')
    (hF2 : ∀ W B' c', Below w.heap.size w W → Threes W W.heap.size B' (l ++ [r]) → Calls Tryd.prog 18 #[.slice A m.length c, .slice B' (l.length + 1) c'] W fun e w' => ∃ A' c', e = .returned (.tuple #[.slice A' m.length c', I 0]) ∧ Pairs w' w'.heap.size A' tl ∧ Below W.heap.size W w')
    (hO2 : ∀ W B' c', Below w.heap.size w W → Threes W W.heap.size B' (l ++ [r]) → Calls Tryd.prog 23 #[.slice A m.length c, .slice B' (l.length + 1) c'] W fun e w' => ∃ A' c' v2, e = .returned (.tuple #[.slice A' y.length c', v2, I 0]) ∧ Ints w' w'.heap.size A' y ∧ Below W.heap.size W w')
    (hX2 : ∀ W B' c', Below w.heap.size w W → Threes W W.heap.size B' (l ++ [r]) → Calls Tryd.prog 15 #[.slice A m.length c, .slice B' (l.length + 1) c'] W fun e w' => e = .returned (.tuple #[I n1, I 0]) ∧ Below W.heap.size W w')
    (hn01 : n0 ≤ n1) (hxy : x.length ≤ y.length) (hxs : x.Pairwise (· < ·)) (hys : y.Pairwise (· < ·)) (hsub : ∀ a ∈ x, a ∈ y) (htl : tl.length = m.length) (hy100 : y.length ≤ 100)
    (hsp : ∀ i, i < m.length → (sF sl i).1 ≤ (sF tl i).1 ∧ (sF tl i).2 ≤ (sF sl i).2)
    (hX3 : ∀ W H ch, Below w.heap.size w W → Pairs W W.heap.size H (raiseW m z (min 1600 (limW m z + by_))) → Calls Tryd.prog 15 #[.slice H m.length ch, .slice B l.length d] W fun e w' => e = .returned (.tuple #[I n2, I 0]) ∧ Below W.heap.size W w')
    (hP1 : ∀ W, Below w.heap.size w W → Calls Tryd.prog 13 #[.slice A m.length c, .slice B l.length d, I main] W fun e w' => ∃ A' c', e = .returned (.tuple #[.slice A' np c', I u]) ∧ Below W.heap.size W w')
    (hP2 : ∀ W H ch, Below w.heap.size w W → Pairs W W.heap.size H (raiseW m z (min 1600 (limW m z + by_))) → Calls Tryd.prog 13 #[.slice H m.length ch, .slice B l.length d, I main] W fun e w' => ∃ A' c', e = .returned (.tuple #[.slice A' nq c', I v]) ∧ Below W.heap.size W w')
    (hcomb : (u = 2 ∧ v = 2) ∨ (u = 4 ∧ v = 4) ∨ (u = 0 ∧ v = 4) ∨ (u = 0 ∧ v = 0 ∧ np ≤ nq)) (hn02 : n2 ≤ n0) (hz : wh % (m.length : Int) = (z : Int)) (hzm : z < m.length) (hlz : 0 ≤ limW m z ∧ limW m z ≤ 1600) (hsl : sl.length = m.length) (hm1 : 1 ≤ m.length) (hm16 : m.length ≤ 16) (hl12 : l.length < 12) (hx100 : x.length ≤ 100)
    (hw0 : 0 ≤ wh) (hw1 : wh ≤ 255) (hb0 : 0 ≤ by_) (hb1 : by_ ≤ 255) (hm : Pairs w w.heap.size A m) (hl : Threes w w.heap.size B l) (hnp : np ≤ 100) (hnq : nq ≤ 100) :
    Calls Tryd.prog 9 #[.slice A m.length c, .slice B l.length d, .agg #[I r.1, I r.2.1, I r.2.2], I main, .int .u8 wh, .int .u8 by_] w fun e w' => e = .returned (.bool true) ∧ Below w.heap.size w w' := by
  have HA := Lib.hid hA; have HG := Lib.hid hG; have HF1 := Lib.hid hF1; have HMA := Lib.hid hMA; have HO1 := Lib.hid hO1; have HX1 := Lib.hid hX1; have HF2 := Lib.hid hF2; have HO2 := Lib.hid hO2; have HX2 := Lib.hid hX2; have HSUB := Lib.hid hsub; have HXS := Lib.hid hxs; have HYS := Lib.hid hys; have HSPN := Lib.hid hsp; have HX3 := Lib.hid hX3; have HP1 := Lib.hid hP1; have HP2 := Lib.hid hP2; have HCOMB := Lib.hid hcomb; have HM := Lib.hid hm; have HL := Lib.hid hl
  have hn01b : decide (n1 < n0) = false := decide_eq_false (by omega)
  have hxyb : decide ((y.length : Int) < (x.length : Int)) = false := decide_eq_false (by omega)
  have hxyb2 : decide (y.length < x.length) = false := decide_eq_false (by omega)
  clear hO2 hX2 hsub hxs hys hsp hn01
  clear hA hG hF1 hMA hO1 hX1 hF2 hX3 hP1 hP2 hcomb hm hl
  have HN02 := Lib.hid hn02
  have hn02b : decide (n0 < n2) = false := decide_eq_false (by omega)
  clear hn02
  obtain ⟨i0, hi0, hi1, hi2, hi3⟩ := info_parts info55M
  obtain ⟨j0, hj0, hj1, hj2, hj3⟩ := info_parts info42
  have hu22 : Tryd.prog.underlying 22 = some (.slice 55) := Tryd.underlying22
  have hu23 : Tryd.prog.underlying 23 = some (.slice 42) := Tryd.underlying23
  have HU := Lib.hid hu22; have HI0 := Lib.hid hi0; have HI1 := Lib.hid hi1; have HI2 := Lib.hid hi2; have HI3 := Lib.hid hi3
  have HU2 := Lib.hid hu23; have HJ0 := Lib.hid hj0; have HJ1 := Lib.hid hj1; have HJ2 := Lib.hid hj2; have HJ3 := Lib.hid hj3
  clear hu22 hi0 hi1 hi2 hi3 hu23 hj0 hj1 hj2 hj3
  have hlb : decide ((12 : Int) ≤ (l.length : Int)) = false := decide_eq_false (by omega)
  have hlb2 : decide (12 ≤ l.length) = false := decide_eq_false (by omega)
  obtain ⟨lz, hlze⟩ : ∃ lz, lz = limW m z := ⟨_, rfl⟩
  rw [← hlze] at HX3 HP2 hlz
  have hwr1 : IntKind.i64.wrap (lz + by_) = lz + by_ := IntWalk.i64_in _ (by omega)
  obtain ⟨r0, r1, r2⟩ := r
  have HLZ := Lib.hid hlze
  clear hlze
  have tokP : True := trivial
  go_enter Tryd.func9, Tryd.ntmps9
  have hBx : Below w.heap.size w (w.alloc (.cells #[I r0, I r1, I r2] 42)) := (Below.refl _ _).alloc (Nat.le_refl _) _
  have HBXC : Hid (∀ W, Below (w.heap.size + 1) (w.alloc (.cells #[I r0, I r1, I r2] 42)) W → Below w.heap.size w W ∧ W.cell? ⟨w.heap.size, 0, none⟩ = some (I r0) ∧ W.cell? ⟨w.heap.size, 1, none⟩ = some (I r1) ∧ W.cell? ⟨w.heap.size, 2, none⟩ = some (I r2) ∧ w.heap.size + 1 ≤ W.heap.size) := Lib.hid fun W hW => by
    refine ⟨hBx.trans (hW.mono (by omega)), ?_, ?_, ?_, by have := hW.size; simpa using this⟩
    iterate 3 (rw [hW.cell (p := ⟨w.heap.size, _, none⟩) (by simp)]; simp [go_sem])
  have hB0 : Below (w.heap.size + 1) (w.alloc (.cells #[I r0, I r1, I r2] 42)) (w.alloc (.cells #[I r0, I r1, I r2] 42)) := Below.refl _ _
  go_wp2_with (first
    | (go_at_call 11; refine (HG.out _).mono ?_; rintro e w0 ⟨rfl, rfl⟩)
    | (go_at_call 18; refine (HF1.out _ hBx).mono ?_; rintro e w1 ⟨A1, c1, rfl, h1, hB1⟩; have hC1 := hB0.trans (hB1.mono (by simp)); obtain ⟨b1, _, _, _, z1⟩ := HBXC.out _ hC1; have HS1 := Lib.hid h1; clear h1)
    | (go_at_call 19; refine (HMA.out _ b1).mono ?_; rintro e w2 ⟨rfl, hB2⟩; have hC2 := hC1.trans (hB2.mono z1); obtain ⟨b2, _, _, _, z2⟩ := HBXC.out _ hC2; have HS2 := Lib.hid ((HS1.out.below hB2).more hB2.size); clear HS1)
    | (go_at_call 23; refine (HO1.out _ b2).mono ?_; rintro e w3 ⟨A3, c3, v3, rfl, h3, hB3⟩; have hC3 := hC2.trans (hB3.mono z2); obtain ⟨b3, _, _, _, z3⟩ := HBXC.out _ hC3; have HS3 := Lib.hid ((HS2.out.below hB3).more hB3.size); have HV3 := Lib.hid h3; clear h3 HS2)
    | (go_at_call 15; refine (HX1.out _ b3).mono ?_; rintro e w4 ⟨rfl, hB4⟩; have hC4 := hC3.trans (hB4.mono z3); obtain ⟨b4, q0, q1, q2, z4⟩ := HBXC.out _ hC4; have HS4 := Lib.hid ((HS3.out.below hB4).more hB4.size); have HV4 := Lib.hid ((HV3.out.below hB4).more hB4.size); clear HS3 HV3)
    | fail)
  have HLR := Lib.hid (HL.out.below b4)
  refine (wpIn_wide (n := 9)).1 ?_
  refine wpIn_region_opsP mPre mLast [some 92, some 93, some 94, some 95, some 96, some 97, some 20] (mV (.slice B l.length d) w4.heap.size l (r0, r1, r2)) (fun j W W' => Below (if j = 5 then w4.heap.size else W.heap.size) W W') (fun W => Below w4.heap.size w4 W) rfl (by kernel_rfl) (by kernel_rfl) (by kernel_rfl) (by kernel_rfl) (fun _ d _ _ _ h => by cases d <;> exact h) (Below.refl _ _).drew
    (fun j W W' h hG => by
      by_cases e : j = 5
      · rw [if_pos e] at hG; exact h.trans hG
      · rw [if_neg e] at hG; exact h.trans (hG.mono h.size)) (fun i j v W W' hij hlj hpj _ h hG => mV_stab _ _ _ _ i j v W W' hij hlj hpj h hG) ?_ ?_
  · refine ⟨?_, ?_, ?_, ?_, ?_, ?_, ?_, trivial⟩
    · (intro val W hC hd K hK; have HC := Lib.hid hC; have HD := Lib.hid hd; have HK := Lib.hid hK; clear hC hd hK; simp only [putD, Act.put, List.setIfInBounds_toArray, List.set_cons_succ, List.set_cons_zero, Nat.zero_add, Nat.reduceAdd] at HK ⊢)
      gi_wp2
      exact HK.out _ _ ((Below.refl _ _).alloc (Nat.le_refl _) _) ⟨_, rfl⟩
    · (intro val W hC hd K hK; have HC := Lib.hid hC; have HD := Lib.hid hd; have HK := Lib.hid hK; clear hC hd hK; simp only [putD, Act.put, List.setIfInBounds_toArray, List.set_cons_succ, List.set_cons_zero, Nat.zero_add, Nat.reduceAdd] at HK ⊢)
      gi_wp2
      exact HK.out _ _ (Below.refl _ _) rfl
    · (intro val W hC hd K hK; have HC := Lib.hid hC; have HD := Lib.hid hd; have HK := Lib.hid hK; clear hC hd hK; simp only [putD, Act.put, List.setIfInBounds_toArray, List.set_cons_succ, List.set_cons_zero, Nat.zero_add, Nat.reduceAdd] at HK ⊢)
      obtain ⟨g1, e1⟩ := HD.out.1 (.inl rfl)
      have e2 : val 1 = .slice B l.length d := HD.out.2.1 (.inl rfl)
      rw [e1, e2] at HK ⊢
      have HTH := Lib.hid (HL.out.below (b4.trans (HC.out.mono b4.size)))
      have HZ := Lib.hid HC.out.size
      clear e1 e2 HD
      refine opIn_append_lit rfl W _ _ 23 rfl 42 j0 (.agg #[I 0, I 0, I 0]) 3 24 HU2.out HJ0.out HJ1.out HJ2.out HJ3.out rfl (by decide) ⟨g1, 0, none⟩ rfl B l.length d (flat3 l) rfl (flat3_len l) (flat3_at HTH.out) (by unfold maxLen; omega) (by omega) ?_
      intro v' w' hown hgrow
      exact HK.out _ _ (grown_below hgrow (Nat.le_refl _) (by simp)) (hown.imp (fun h => own_base h HZ.out) (fun h => ⟨h.1, g1, h.2⟩))
    · (intro val W hC hd K hK; have HC := Lib.hid hC; have HD := Lib.hid hd; have HK := Lib.hid hK; clear hC hd hK; simp only [putD, Act.put, List.setIfInBounds_toArray, List.set_cons_succ, List.set_cons_zero, Nat.zero_add, Nat.reduceAdd] at HK ⊢)
      obtain ⟨_, f0, f1, f2, _⟩ := HBXC.out W (hC4.trans (HC.out.mono z4))
      gi_wp2
      exact HK.out _ _ (Below.refl _ _) rfl
    · (intro val W hC hd K hK; have HC := Lib.hid hC; have HD := Lib.hid hd; have HK := Lib.hid hK; clear hC hd hK; simp only [putD, Act.put, List.setIfInBounds_toArray, List.set_cons_succ, List.set_cons_zero, Nat.zero_add, Nat.reduceAdd] at HK ⊢)
      have e1 : val 3 = .agg #[I r0, I r1, I r2] := HD.out.1 (.inl rfl)
      rw [e1] at HK ⊢
      gi_wp2
      exact HK.out _ _ ((Below.refl _ _).alloc (Nat.le_refl _) _) ⟨_, rfl, Nat.zero_le _, by simp, fun k hk => by rcases k with _ | _ | _ | k <;> first | (simp [go_sem]; done) | (simp at hk; omega)⟩
    · (intro val W hC hd K hK; have HC := Lib.hid hC; have HD := Lib.hid hd; have HK := Lib.hid hK; clear hC hd hK; simp only [putD, Act.put, List.setIfInBounds_toArray, List.set_cons_succ, List.set_cons_zero, Nat.zero_add, Nat.reduceAdd] at HK ⊢)
      have h3 : W.ownsRow w4.heap.size 42 3 (val 2) l.length (flat3 l) ∨ (l.length = 0 ∧ ∃ g, val 2 = .slice (some ⟨g, 0, none⟩) 0 0) := HD.out.1 (.inr rfl)
      obtain ⟨g9, e9, h9⟩ : ∃ g, val 4 = .slice (some ⟨g, 0, none⟩) 1 1 ∧ RowAt W 0 g [I r0, I r1, I r2] := HD.out.2.1 (.inr rfl)
      have H9 := Lib.hid h9
      have HZ := Lib.hid HC.out.size
      have hfl : Hid (flat3 (l ++ [(r0, r1, r2)]) = flat3 l ++ [I r0, I r1, I r2]) := Lib.hid (flat3_snoc l _)
      rcases h3 with h3 | ⟨hl0', g3, e3⟩
      · generalize val 2 = v3 at *
        rw [e9] at HK ⊢
        have H3 := Lib.hid h3
        clear e9 h9 HD h3
        refine opIn_append_own rfl W _ _ 23 rfl w4.heap.size 42 j0 (.agg #[I 0, I 0, I 0]) 3 24 HU2.out HJ0.out HJ1.out HJ2.out HJ3.out rfl (by decide) v3 l.length (flat3 l) rfl H3.out ⟨g9, 0, none⟩ 1 1 [I r0, I r1, I r2] rfl rfl H9.out.src (by simp [Value.oneCell']) (by unfold maxLen; omega) (by omega) HZ.out ?_
        intro v' w' hown hgrow _
        refine HK.out _ _ (grown_below hgrow HZ.out (fun k hk => (H3.out.lt k hk).1)) ?_
        rw [← hfl.out] at hown
        exact threes_own (by simp) hown
      · rw [e3, e9] at HK ⊢
        have hle : Hid (l = []) := Lib.hid (List.eq_nil_of_length_eq_zero hl0')
        have HL0 := Lib.hid hl0'
        clear e3 e9 h9 HD hl0'
        refine opIn_append_grows rfl W _ _ 23 rfl 42 j0 (.agg #[I 0, I 0, I 0]) 3 24 HU2.out HJ0.out HJ1.out HJ2.out HJ3.out rfl (by decide) ⟨g3, 0, none⟩ 0 0 [] rfl rfl (fun j u h => by simp at h) ⟨g9, 0, none⟩ 1 1 [I r0, I r1, I r2] rfl rfl H9.out.src (by decide) (by decide) (by decide) ?_
        intro v' w' hown hgrow
        refine HK.out _ _ (grown_below hgrow HZ.out (fun k hk => by cases hk)) ?_
        have e4 : flat3 (l ++ [(r0, r1, r2)]) = [] ++ [I r0, I r1, I r2] := by rw [hfl.out, hle.out]; rfl
        rw [← e4] at hown
        obtain ⟨A', c', e', h'⟩ := threes_own (by rw [hle.out]; rfl) hown
        exact ⟨A', c', by rw [e', HL0.out], h'⟩
    · (intro val W hC hd K hK; have HC := Lib.hid hC; have HD := Lib.hid hd; have HK := Lib.hid hK; clear hC hd hK; simp only [putD, Act.put, List.setIfInBounds_toArray, List.set_cons_succ, List.set_cons_zero, Nat.zero_add, Nat.reduceAdd] at HK ⊢)
      obtain ⟨A5, c5, e5, h5⟩ : ∃ (A : Option Addr) (c : Nat), val 5 = .slice A (l.length + 1) c ∧ Threes W W.heap.size A (l ++ [(r0, r1, r2)]) := HD.out.1 (.inl rfl)
      rw [e5] at HK ⊢
      gi_wp2
      exact HK.out _ _ (Below.refl _ _) ⟨_, _, rfl, h5⟩
  intro val W hC hd
  obtain ⟨A6, c6, e6, h6⟩ : ∃ (A : Option Addr) (c : Nat), val 6 = .slice A (l.length + 1) c ∧ Threes W W.heap.size A (l ++ [(r0, r1, r2)]) := hd.2.2.2.2.2.2.1 rfl
  simp only [putD, Act.put, List.setIfInBounds_toArray, List.set_cons_succ, List.set_cons_zero, Nat.zero_add, Nat.reduceAdd]
  rw [e6]
  have HAL := Lib.hid h6
  have hBW := b4.trans (hC.mono b4.size)
  have HS5 := Lib.hid ((HS4.out.below hC).more hC.size)
  have HV5 := Lib.hid ((HV4.out.below hC).more hC.size)
  generalize val 0 = y0 at *
  generalize val 1 = y1 at *
  generalize val 2 = y2 at *
  generalize val 3 = y3 at *
  generalize val 4 = y4 at *
  generalize val 5 = y5 at *
  clear hd e6 h6 hC HS4 HV4 q0 q1 q2 HLR HBXC hC1 hC2 hC3 hC4 b1 b2 b3 b4 hB0 hBx
  go_wp2_with (first
    | (go_at_call 18; refine (HF2.out _ _ _ hBW HAL.out).mono ?_; rintro e w5 ⟨At, ct, rfl, ht, hBt⟩; have hBw5 := hBW.trans (hBt.mono hBW.size); have HT5 := Lib.hid ht; have HAL5 := Lib.hid ((HAL.out.below hBt).more hBt.size); have HSa := Lib.hid ((HS5.out.below hBt).more hBt.size); have HVa := Lib.hid ((HV5.out.below hBt).more hBt.size); clear ht HAL HS5 HV5)
    | (go_at_call 23; refine (HO2.out _ _ _ hBw5 HAL5.out).mono ?_; rintro e w6 ⟨Ay, cy, vy, rfl, hy, hBy⟩; have hBw6 := hBw5.trans (hBy.mono hBw5.size); have HY6 := Lib.hid hy; have HT6 := Lib.hid ((HT5.out.below hBy).more hBy.size); have HAL6 := Lib.hid ((HAL5.out.below hBy).more hBy.size); have HSb := Lib.hid ((HSa.out.below hBy).more hBy.size); have HVb := Lib.hid ((HVa.out.below hBy).more hBy.size); clear hy HAL5 HSa HVa HT5)
    | (go_at_call 15; refine (HX2.out _ _ _ hBw6 HAL6.out).mono ?_; rintro e w7 ⟨rfl, hB7⟩; have hBw7 := hBw6.trans (hB7.mono hBw6.size); have HY7 := Lib.hid ((HY6.out.below hB7).more hB7.size); have HT7 := Lib.hid ((HT6.out.below hB7).more hB7.size); have HS7 := Lib.hid ((HSb.out.below hB7).more hB7.size); have HV7 := Lib.hid ((HVb.out.below hB7).more hB7.size); clear HY6 HT6 HSb HVb HAL6)
    | fail)
  go_loopw [146] (fun s wr => ∃ k : Nat, k ≤ m.length ∧ s = I k ∧ Below w7.heap.size w7 wr) (fun s _ => m.length - (intOf s).toNat)
  case atStart => exact ⟨0, Nat.zero_le _, rfl, Below.refl _ _⟩
  case round =>
    obtain ⟨k, hk, rfl, hB⟩ := hrel
    by_cases hlt : k < m.length
    · obtain ⟨tb, tof, hte, htz, htc⟩ := (HT7.out.below hB) (by omega)
      obtain ⟨sb, so, hse, hsz, hsc⟩ := (HS7.out.below hB) (by omega)
      subst hte hse
      obtain ⟨x0, x1⟩ := htc k (by omega)
      obtain ⟨y0', y1'⟩ := hsc k (by omega)
      have hts : tl[k]'(by omega) = sF tl k := by simp [sF, List.getD, show k < tl.length by omega]
      have hss : sl[k]'(by omega) = sF sl k := by simp [sF, List.getD, show k < sl.length by omega]
      obtain ⟨hc0, hc1⟩ := HSPN.out k hlt
      rw [← hts, ← hss] at hc0 hc1
      have d0 : decide ((tl[k]'(by omega)).1 < (sl[k]'(by omega)).1) = false := decide_eq_false (by omega)
      have d1 : decide ((sl[k]'(by omega)).2 < (tl[k]'(by omega)).2) = false := decide_eq_false (by omega)
      clear hts hss hc0 hc1 htc hsc
      generalize tl[k]'(by omega) = ta at *
      generalize sl[k]'(by omega) = sa at *
      obtain ⟨t1, t2⟩ := ta
      obtain ⟨s1, s2⟩ := sa
      simp only at x0 x1 y0' y1' d0 d1
      have p0 : (0 : Int) ≤ (k : Int) := by omega
      have p1 : (k : Int) < (m.length : Int) := by omega
      go_wp2_with (fail)
      go_quiet (fail)
      go_wp2
      go_roundw
      case rel => exact ⟨k + 1, by omega, by go_num, below_drewN hB _⟩
      case measure => first | (simp [intOf]; done) | (simp [intOf]; omega)
    · obtain rfl : m.length = k := by omega
      have hBw8 := hBw7.trans (hB.mono hBw7.size)
      have HY8 := Lib.hid ((HY7.out.below hB).more hB.size)
      have HV8 := Lib.hid ((HV7.out.below hB).more hB.size)
      clear HY7 HV7 HT7 HS7 hB hBw7
      generalize wr = w8 at *
      go_wp2_with (fail)
      go_loopw [29, 176] (fun s29 s176 wr => ∃ k a : Nat, k ≤ y.length ∧ a ≤ x.length ∧ s176 = I k ∧ s29 = I a ∧ Hid (Within x y k a) ∧ Below w8.heap.size w8 wr) (fun _ s _ => y.length - (intOf s).toNat)
      case atStart => exact ⟨0, 0, Nat.zero_le _, Nat.zero_le _, rfl, rfl, Lib.hid (Within.start x y), Below.refl _ _⟩
      case round =>
        obtain ⟨k, a, hk, ha, rfl, rfl, HWI, hB⟩ := hrel
        by_cases hlt : k < y.length
        · obtain ⟨yb, yo, hye, hyz, hyc⟩ := (HY8.out.below hB) (by omega)
          subst hye
          have e0 := hyc k hlt
          have p0 : (0 : Int) ≤ (k : Int) := by omega
          have p1 : (k : Int) < (y.length : Int) := by omega
          have p2 : (0 : Int) ≤ (a : Int) := by omega
          clear hyc
          by_cases hax : a < x.length
          · obtain ⟨xb, xo, hxe, hxz, hxc⟩ := (HV8.out.below hB) (by omega)
            subst hxe
            have e1 := hxc a hax
            have p3 : (a : Int) < (x.length : Int) := by omega
            have d0 : decide ((a : Int) < (x.length : Int)) = true := decide_eq_true p3
            have d1 : decide (a < x.length) = true := decide_eq_true hax
            have HHIT : Hid (x[a] = y[k] → Within x y (k + 1) (a + 1)) := Lib.hid fun e => HWI.out.hit HXS.out hlt hax e
            have HMISS : Hid (x[a] ≠ y[k] → Within x y (k + 1) a) := Lib.hid fun e => HWI.out.miss HXS.out HYS.out HSUB.out hlt (fun _ => e)
            clear hxc
            generalize x[a] = xa at *
            generalize y[k] = ya at *
            by_cases he : xa = ya
            · have heb : (xa == ya) = true := by simpa using he
              have HE := Lib.hid (HHIT.out he)
              clear he HHIT HMISS
              go_wp2
              go_roundw
              case rel => exact ⟨k + 1, a + 1, by omega, by omega, by go_num, by go_num, HE, hB⟩
              case measure => first | (simp [intOf]; done) | (simp [intOf]; omega)
            · have heb : (xa == ya) = false := by simpa using he
              have HE := Lib.hid (HMISS.out he)
              clear he HHIT HMISS
              go_wp2
              go_roundw
              case rel => exact ⟨k + 1, a, by omega, by omega, by go_num, rfl, HE, hB⟩
              case measure => first | (simp [intOf]; done) | (simp [intOf]; omega)
          · have d0 : decide ((a : Int) < (x.length : Int)) = false := decide_eq_false (by omega)
            have d1 : decide (a < x.length) = false := decide_eq_false hax
            have HE : Hid (Within x y (k + 1) a) := Lib.hid (HWI.out.miss HXS.out HYS.out HSUB.out hlt (fun h => absurd h hax))
            clear hax
            generalize y[k] = ya at *
            go_wp2
            go_roundw
            case rel => exact ⟨k + 1, a, by omega, by omega, by go_num, rfl, HE, hB⟩
            case measure => first | (simp [intOf]; done) | (simp [intOf]; omega)
        · obtain rfl : y.length = k := by omega
          obtain rfl : a = x.length := HWI.out.done HSUB.out
          have hBT := hBw8.trans (hB.mono hBw8.size)
          clear HWI HV8 HY8 hB
          generalize wr = WW at *
          go_wp2_with (first
          | (at_builtin; have hBa : Below WW.heap.size WW (WW.alloc (.cells #[] 55)) := (Below.refl _ _).alloc (Nat.le_refl _) _; have hBaw := hBT.trans (hBa.mono hBT.size); have HAT := Lib.hid (flat2_atM (HM.out.below hBaw)); refine wpList_append_litM _ rfl _ _ 22 rfl 55 i0 (.agg #[I 0, I 0]) 2 16 HU.out HI0.out HI1.out HI2.out HI3.out rfl (by decide) _ rfl A m.length c (flat2 m) rfl (flat2_len m) HAT.out (by unfold maxLen; omega) (by omega) ?_; intro v6 w6 hown hgrow; have hB6 : Below w.heap.size w w6 := hBaw.trans (grown_below hgrow (by have := hBaw.size; omega) (fun g e => by cases e)); obtain ⟨gh, ch, rfl, hgz, hgb, hgc, hgf, hgr⟩ := raise_row (n := 0) hown hzm; rw [← HLZ.out] at hgc; have HGR := Lib.hid hgr; have hghw : w.heap.size ≤ gh := (by have := hBaw.size; omega); clear hgr hown hgrow HAT hBa hBaw)
          | (go_at_call 15; have hB7 : Below w.heap.size w (w6.setCell ⟨gh, z * 2 + 1, none⟩ (I (min 1600 (lz + by_)))) := hB6.setCell hghw _; have HPR : Hid (Pairs (w6.setCell ⟨gh, z * 2 + 1, none⟩ (I (min 1600 (lz + by_)))) (w6.setCell ⟨gh, z * 2 + 1, none⟩ (I (min 1600 (lz + by_)))).heap.size (some ⟨gh, 0, none⟩) (raiseW m z (min 1600 (lz + by_)))) := Lib.hid (by simpa [World.setCell] using HGR.out (min 1600 (lz + by_))); refine (HX3.out _ _ _ hB7 HPR.out).mono ?_; rintro e w8 ⟨rfl, hB8⟩; have HPR8 := Lib.hid ((HPR.out.below hB8).more hB8.size); have hBw8 := hB7.trans (hB8.mono hB7.size); clear HPR HGR)
          | (go_at_call 13; have _t := tokP; refine (HP1.out _ hBw8).mono ?_; rintro e w9 ⟨A9, c9, rfl, hB9⟩; have HPR9 := Lib.hid ((HPR8.out.below hB9).more hB9.size); have hBw9 := hBw8.trans (hB9.mono hBw8.size); clear HPR8 tokP)
          | (go_at_call 13; refine (HP2.out _ _ _ hBw9 HPR9.out).mono ?_; rintro e w10 ⟨A10, c10, rfl, hB10⟩; have hBw10 := hBw9.trans (hB10.mono hBw9.size); clear HPR9; rcases HCOMB.out with ⟨rfl, rfl⟩ | ⟨rfl, rfl⟩ | ⟨rfl, rfl⟩ | ⟨rfl, rfl, hle⟩ <;> (try (have hleb : decide ((np : Int) ≤ (nq : Int)) = true := decide_eq_true (by omega); have hleb2 : decide (np ≤ nq) = true := decide_eq_true hle; clear hle)))
          | (go_at_call 12; refine (HA.out _ hBw10).mono ?_; rintro e w11 ⟨rfl, hB11⟩)
          | fail)
          all_goals go_ret
          all_goals exact ⟨rfl, hBw10.trans (hB11.mono hBw10.size)⟩
end Go.Proofs.YtgdilbilhajgaaaDoor
