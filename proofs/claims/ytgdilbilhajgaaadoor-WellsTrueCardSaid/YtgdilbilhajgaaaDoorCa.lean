/- WellsEnds and its like, plain: one reading more that tells a main's number. -/
import Derived.Test.YtgdilbilhajgaaaDoorSa
import Derived.Test.YtgdilbilhajgaaaDoorPk
import Derived.ArgAppend
namespace Go.Proofs.YtgdilbilhajgaaaDoor
set_option linter.unusedVariables false
set_option linter.unusedSimpArgs false
open Go Go.RowKit

theorem feas_iff {m : List (Int × Int)} {l : List (Int × Int × Int)} {x : Nat → Int} : Feas m l x ↔
    ∀ i, i < m.length → ((0 ≤ x i ∧ x i ≤ 1600) ∧ ∀ r ∈ l, r.1 = (i : Int) → r.2.1 ≤ x i ∧ x i ≤ r.2.2) ∧ (kids m i = [] → 0 ≤ x i ∧ x i ≤ 100) ∧ (kids m i ≠ [] → x i = sumL x (kids m i)) := by
  unfold Feas
  simp only [mem_told]
theorem feas_snoc {m : List (Int × Int)} {l : List (Int × Int × Int)} {x : Nat → Int} {i : Nat} {n : Int} (hi : i < m.length) : Feas m (l ++ [((i : Int), n, n)]) x ↔ Feas m l x ∧ x i = n := by
  simp only [feas_iff]
  constructor
  · intro h
    refine ⟨fun j hj => ?_, ?_⟩
    · obtain ⟨⟨h1, h2⟩, h3⟩ := h j hj
      exact ⟨⟨h1, fun r hr => h2 r (by simp [hr])⟩, h3⟩
    · have := (h i hi).1.2 ((i : Int), n, n) (by simp) rfl
      simp only at this
      omega
  · rintro ⟨h, e⟩ j hj
    obtain ⟨⟨h1, h2⟩, h3⟩ := h j hj
    refine ⟨⟨h1, fun r hr hrj => ?_⟩, h3⟩
    rcases List.mem_append.1 hr with hr | hr
    · exact h2 r hr hrj
    · simp only [List.mem_singleton] at hr
      subst hr
      simp only at hrj ⊢
      obtain rfl : i = j := by omega
      omega
theorem rds_snoc {k : Nat} {l : List (Int × Int × Int)} {i : Nat} {n : Int} (hl : RdsOk k l) (hlen : l.length < 12) (hi : i < k) (hn : 0 ≤ n ∧ n ≤ 1600) : RdsOk k (l ++ [((i : Int), n, n)]) := by
  refine ⟨by simp; omega, fun j hj => ?_⟩
  rw [List.getElem_append]
  split
  · exact hl.2 j _
  · simp only [List.length_append, List.length_singleton] at hj
    simp only [show j - l.length = 0 by omega, List.getElem_cons_zero]
    exact ⟨by simp only; omega, by simp only; omega⟩
theorem ends_iff {m : List (Int × Int)} {l : List (Int × Int × Int)} {d : Nat → Int × Int} (h : IsSpans m l d) {i : Nat} {n : Int} (hi : i < m.length) : (∃ x, Feas m (l ++ [((i : Int), n, n)]) x) ↔ (d i).1 ≤ n ∧ n ≤ (d i).2 := by
  constructor
  · rintro ⟨x, hx⟩
    obtain ⟨h1, h2⟩ := (feas_snoc hi).1 hx
    have := h.sound x h1 i hi
    omega
  · rintro ⟨h1, h2⟩
    obtain ⟨x, hx, e⟩ := h.full i hi n h1 h2
    exact ⟨x, (feas_snoc hi).2 ⟨hx, e⟩⟩
theorem ends_bd {m : List (Int × Int)} {l : List (Int × Int × Int)} {d : Nat → Int × Int} (h : IsSpans m l d) {i : Nat} (hi : i < m.length) : 0 ≤ (d i).1 ∧ (d i).1 ≤ (d i).2 ∧ (d i).2 ≤ 1600 := by
  have hle := h.le hi
  obtain ⟨x, hx, e⟩ := h.full i hi _ (Int.le_refl _) hle
  obtain ⟨y, hy, e'⟩ := h.full i hi _ hle (Int.le_refl _)
  have a := ((feas_iff.1 hx) i hi).1.1
  have b := ((feas_iff.1 hy) i hi).1.1
  omega
end Go.Proofs.YtgdilbilhajgaaaDoor
/- Rows of threes that are laid anew and grow; WellsEnds' closure 'can'. -/
namespace Go.Proofs.YtgdilbilhajgaaaDoor
set_option linter.unusedVariables false
set_option linter.unusedSimpArgs false
open Go Go.RowKit

theorem flat3_len (xs : List (Int × Int × Int)) : (flat3 xs).length = xs.length * 3 := by
  induction xs with
  | nil => rfl
  | cons x r ih =>
    have e : flat3 (x :: r) = I x.1 :: I x.2.1 :: I x.2.2 :: flat3 r := rfl
    rw [e]
    simp only [List.length_cons, ih]
    omega
theorem flat3_one : ∀ (xs : List (Int × Int × Int)), ∀ u ∈ flat3 xs, u.oneCell' = true := fun xs u hu => by
  obtain ⟨x, _, hx⟩ := List.mem_flatMap.1 hu
  simp at hx
  rcases hx with rfl | rfl | rfl <;> rfl
theorem flat3_at {W : World} {B : Nat} {A : Option Addr} {xs : List (Int × Int × Int)} (h : Threes W B A xs) : 0 < xs.length → ∃ ad, A = some ad ∧ ∀ j u, (flat3 xs)[j]? = some u → W.cell? (ad.add j) = some u := fun h0 => by
  obtain ⟨b, off, rfl, _, hc⟩ := h h0
  refine ⟨_, rfl, fun j u hj => ?_⟩
  have hj' : j < xs.length * 3 := by
    have := (List.getElem?_eq_some_iff.1 hj).1
    rwa [flat3_len] at this
  have hk : j / 3 < xs.length := by omega
  obtain ⟨c0, c1, c2⟩ := hc (j / 3) hk
  obtain ⟨d0, d1, d2⟩ := flat3_get xs (j / 3) hk
  rw [Addr.add_lit]
  rcases (by omega : j = j / 3 * 3 ∨ j = j / 3 * 3 + 1 ∨ j = j / 3 * 3 + 2) with e | e | e
  · rw [e] at hj ⊢; rw [d0] at hj; cases hj; exact c0
  · rw [e] at hj ⊢; rw [d1] at hj; cases hj; rw [← Nat.add_assoc]; exact c1
  · rw [e] at hj ⊢; rw [d2] at hj; cases hj; rw [← Nat.add_assoc]; exact c2
def RowAt (W : World) (B0 g : Nat) (us : List Value) : Prop := B0 ≤ g ∧ g < W.heap.size ∧ ∀ k (h : k < us.length), W.cell? ⟨g, k, none⟩ = some us[k]
theorem RowAt.call {W W' : World} {B0 g : Nat} {us : List Value} (h : RowAt W B0 g us) (hB : Below W.heap.size W W') : RowAt W' B0 g us :=
  ⟨h.1, Nat.lt_of_lt_of_le h.2.1 hB.size, fun k hk => (hB.cell (p := ⟨g, k, none⟩) h.2.1).trans (h.2.2 k hk)⟩
theorem RowAt.src {W : World} {B0 g : Nat} {us : List Value} (h : RowAt W B0 g us) : ∀ j u, us[j]? = some u → W.cell? ((⟨g, 0, none⟩ : Addr).add j) = some u := fun j u hj => by
  rw [Addr.add_lit, Nat.zero_add]
  obtain ⟨hj', rfl⟩ := List.getElem?_eq_some_iff.1 hj
  exact h.2.2 j hj'

section
variable {F : Fence} {n : Nat} {P : Program} {Q : Exit → Act → World → Prop}
theorem opIn_append_grows (hro : F.round = none) (w : World) {o : Oper} {a : Act} {K : Act → World → Prop} (s x : Operand) (t : TypeId)
    (ho : o.op = .call { callee := .builtin .append, args := #[s, x], argTypes := #[t, t] })
    (e : TypeId) (i : TypeInfo) (z : Value) (size bytes : Nat) (ht : P.underlying t = some (.slice e)) (hi : P.info? e = some i) (hz : i.zero = some z)
    (hsize : i.size = size) (hby : i.bytes = bytes) (hzs : z.cells.size = size) (hsz : 0 < size)
    (b : Addr) (k cap : Nat) (olds : List Value) (hs : a.eval s = .slice (some b) k cap) (hlo : olds.length = k * size) (holds : ∀ j u, olds[j]? = some u → w.cell? (b.add j) = some u)
    (ad : Addr) (m c : Nat) (news : List Value) (hx : a.eval x = .slice (some ad) m c) (hl : news.length = m * size) (hnews : ∀ j u, news[j]? = some u → w.cell? (ad.add j) = some u)
    (hg : cap < k + m) (h63 : k + m ≤ maxLen) (hbytes : (k + m) * bytes ≤ 140737488355328)
    (h : ∀ v' w', w'.ownsRow w.heap.size e size v' (k + m) (olds ++ news) → w.grownBy w' none → K (a.put o.dst v') w') : o.wpIn F n P a w K Q := by
  obtain ⟨v', w', hr, h2, h3⟩ := run_append_arg_grows (P := P) w t o.type e i z size bytes ht hi hz hsize hby hzs hsz b k cap olds hlo holds ad m c news hl hnews hg h63 hbytes
  unfold Oper.wpIn
  refine ⟨?_, ?_⟩
  · simp [Oper.about, ho, resolve, Target.leads, Sem.run_pure]
  · rw [hro, Oper.semAt_none]
    simp only [execOp, ho, resolve, invoke, builtin, Sem.run_bind, Sem.run_pure, Result.andThen_ok, List.map_toArray, List.map_cons, List.map_nil, hs, hx, hr]
    exact h v' w' h2 h3
theorem run_append_lit (w : World) (t ty e : TypeId) (i : TypeInfo) (z : Value) (size bytes : Nat) (ht : P.underlying t = some (.slice e)) (hi : P.info? e = some i) (hz : i.zero = some z)
    (hsize : i.size = size) (hby : i.bytes = bytes) (hzs : z.cells.size = size) (hsz : 0 < size)
    (b : Addr) (A : Option Addr) (m c : Nat) (news : List Value) (hl : news.length = m * size) (hnews : 0 < m → ∃ ad, A = some ad ∧ ∀ j u, news[j]? = some u → w.cell? (ad.add j) = some u)
    (h63 : m ≤ maxLen) (hbytes : m * bytes ≤ 140737488355328) :
    ∃ v' w', (Builtin.append_ #[t, t] ty #[.slice (some b) 0 0, .slice A m c]).run P w = .ok v' w' ∧ (w'.ownsRow w.heap.size e size v' m news ∨ m = 0 ∧ v' = .slice (some b) 0 0) ∧ w.grownBy w' none := by
  rcases Nat.eq_zero_or_pos m with h0 | h0
  · subst h0
    have hsrc : Src P i.size t (.slice A 0 c) 0 [] w := by
      cases A with
      | none => exact Src.ofNil w ht c
      | some ad => exact Src.ofSlice w ht ad 0 c [] (by simp) (fun j u h => by simp at h) (fun u h => by simp at h)
    exact ⟨_, w, run_append_nothing (P := P) w t t ty e i ht hi (some b) 0 0 (Nat.le_refl _) _ hsrc, .inr ⟨rfl, rfl⟩, ⟨rfl, rfl, rfl, Nat.le_refl _, fun _ _ _ => rfl⟩⟩
  · obtain ⟨ad, rfl, hc⟩ := hnews h0
    obtain ⟨v', w', hr, h2, h3⟩ := run_append_arg_grows (P := P) w t ty e i z size bytes ht hi hz hsize hby hzs hsz b 0 0 [] (by simp) (fun j u h => by simp at h) ad m c news hl hc (by omega) (by omega) (by simpa using hbytes)
    exact ⟨v', w', hr, .inl (by simpa using h2), h3⟩
theorem opIn_append_lit (hro : F.round = none) (w : World) {o : Oper} {a : Act} {K : Act → World → Prop} (s x : Operand) (t : TypeId)
    (ho : o.op = .call { callee := .builtin .append, args := #[s, x], argTypes := #[t, t] })
    (e : TypeId) (i : TypeInfo) (z : Value) (size bytes : Nat) (ht : P.underlying t = some (.slice e)) (hi : P.info? e = some i) (hz : i.zero = some z)
    (hsize : i.size = size) (hby : i.bytes = bytes) (hzs : z.cells.size = size) (hsz : 0 < size)
    (b : Addr) (hs : a.eval s = .slice (some b) 0 0) (A : Option Addr) (m c : Nat) (news : List Value) (hx : a.eval x = .slice A m c) (hl : news.length = m * size) (hnews : 0 < m → ∃ ad, A = some ad ∧ ∀ j u, news[j]? = some u → w.cell? (ad.add j) = some u)
    (h63 : m ≤ maxLen) (hbytes : m * bytes ≤ 140737488355328)
    (h : ∀ v' w', (w'.ownsRow w.heap.size e size v' m news ∨ m = 0 ∧ v' = .slice (some b) 0 0) → w.grownBy w' none → K (a.put o.dst v') w') : o.wpIn F n P a w K Q := by
  obtain ⟨v', w', hr, h2, h3⟩ := run_append_lit (P := P) w t o.type e i z size bytes ht hi hz hsize hby hzs hsz b A m c news hl hnews h63 hbytes
  unfold Oper.wpIn
  refine ⟨?_, ?_⟩
  · simp [Oper.about, ho, resolve, Target.leads, Sem.run_pure]
  · rw [hro, Oper.semAt_none]
    simp only [execOp, ho, resolve, invoke, builtin, Sem.run_bind, Sem.run_pure, Result.andThen_ok, List.map_toArray, List.map_cons, List.map_nil, hs, hx, hr]
    exact h v' w' h2 h3
end

/-! 'can' of WellsEnds. -/
def canB (s : Nat → Int × Int) (i : Nat) (n : Int) : Bool := decide ((s i).1 ≤ n ∧ n ≤ (s i).2)
theorem flows_more (A B : Option Addr) (c d : Nat) (m : List (Int × Int)) (l : List (Int × Int × Int)) (i : Nat) (n : Int) (s : Nat → Int × Int) (w : World) (hm : Pairs w w.heap.size A m) (hl : Threes w w.heap.size B (l ++ [((i : Int), n, n)]))
    (hok : InOk m l) (hlen : l.length < 12) (hi : i < m.length) (hn : 0 ≤ n ∧ n ≤ 1600) (hs : IsSpans m l s) (r : Int) (hr : r = if canB s i n then 0 else 6) :
    Calls Tryd.prog 18 #[.slice A m.length c, .slice B (l.length + 1) d] w fun e w' => (∃ v, e = .returned (.tuple #[v, I r])) ∧ Below w.heap.size w w' := by
  have hll : (l ++ [((i : Int), n, n)]).length = l.length + 1 := by simp
  have h18 := flows18 A B c d m (l ++ [((i : Int), n, n)]) w hm (by have := hok.1.le; omega) hl (by omega)
  rw [hll] at h18
  refine h18.mono ?_
  have hok2 : InOk m (l ++ [((i : Int), n, n)]) := ⟨hok.1, rds_snoc hok.2 hlen (by omega) hn⟩
  have hend := ends_iff hs hi (n := n)
  rintro e w' ⟨hB, ⟨h, _⟩ | ⟨_, h, rfl⟩ | ⟨_, v, sl, rfl, _, _, hsp⟩⟩
  · exact absurd hok2 h
  · refine ⟨⟨nilS, ?_⟩, hB⟩
    have : canB s i n = false := decide_eq_false fun h' => h (hend.2 h')
    rw [hr, this]
    rfl
  · refine ⟨⟨v, ?_⟩, hB⟩
    have : canB s i n = true := decide_eq_true (hend.1 hsp.some)
    rw [hr, this]
    rfl

/-- What each operation of the third region yields. -/
def cV (av bv : Value) (i : Nat) (n r : Int) (N : Nat) (l : List (Int × Int × Int)) : Nat → Value → World → Prop
  | 0, v, _ => v = av
  | 1, v, _ => ∃ g, v = .slice (some ⟨g, 0, none⟩) 0 0
  | 2, v, _ => v = bv
  | 3, v, W => W.ownsRow N 42 3 v l.length (flat3 l) ∨ (l.length = 0 ∧ ∃ g, v = .slice (some ⟨g, 0, none⟩) 0 0)
  | 4, v, _ => v = I i
  | 5, v, _ => v = I n
  | 6, v, _ => v = I n
  | 7, v, _ => v = .agg #[I n, I n]
  | 8, v, _ => v = .agg #[I i, I n, I n]
  | 9, v, W => ∃ g, v = .slice (some ⟨g, 0, none⟩) 1 1 ∧ RowAt W 0 g [I i, I n, I n]
  | 10, v, W => W.ownsRow N 42 3 v (l.length + 1) (flat3 (l ++ [((i : Int), n, n)]))
  | 11, v, _ => ∃ u, v = .tuple #[u, I r]
  | 12, v, _ => ∃ u, v = .tuple #[u, I r]
  | 14, v, _ => v = I r
  | 16, v, _ => v = I r
  | _, _, _ => True
def cLast (i : Nat) : Option Nat := if i = 3 ∨ i = 9 then some 10 else none
theorem cV_stab (av bv : Value) (s : Nat) (n r : Int) (N : Nat) (l : List (Int × Int × Int)) (i j : Nat) (v : Value) (W W' : World) (hij : i ≠ j) (hl : cLast i ≠ some j) (h : cV av bv s n r N l i v W) (hB : Below (if j = 10 then N else W.heap.size) W W') : cV av bv s n r N l i v W' := by
  rcases i with _ | _ | _ | _ | _ | _ | _ | _ | _ | _ | _ | _ | _ | _ | _ | _ | _ | i
  case succ.succ.succ.zero =>
    rw [if_neg (fun e => hl (by rw [e]; rfl))] at hB
    exact h.imp (fun h => grown_own h hB) id
  case succ.succ.succ.succ.succ.succ.succ.succ.succ.zero =>
    rw [if_neg (fun e => hl (by rw [e]; rfl))] at hB
    obtain ⟨g, h1, h2⟩ := h
    exact ⟨g, h1, h2.call hB⟩
  case succ.succ.succ.succ.succ.succ.succ.succ.succ.succ.zero =>
    rw [if_neg (fun e => hij e.symm)] at hB
    exact grown_own h hB
  all_goals exact h
end Go.Proofs.YtgdilbilhajgaaaDoor
/- WellsEnds' closure 'can': the walk. -/
namespace Go.Proofs.YtgdilbilhajgaaaDoor
set_option linter.unusedVariables false
set_option linter.unusedSimpArgs false
open Go Go.RowKit

set_option maxRecDepth 100000 in
set_option maxHeartbeats 4000000 in
theorem can20 (bm bl bi : Nat) (A B : Option Addr) (c d : Nat) (m : List (Int × Int)) (l : List (Int × Int × Int)) (i : Nat) (n : Int) (s : Nat → Int × Int) (w : World)
    (hbm : bm < w.heap.size) (hbl : bl < w.heap.size) (hbi : bi < w.heap.size) (h1 : w.cell? ⟨bm, 0, none⟩ = some (.slice A m.length c)) (h2 : w.cell? ⟨bl, 0, none⟩ = some (.slice B l.length d)) (h3 : w.cell? ⟨bi, 0, none⟩ = some (I i))
    (hm : Pairs w w.heap.size A m) (hl : Threes w w.heap.size B l) (hok : InOk m l) (hlen : l.length < 12) (hi : i < m.length) (hs : IsSpans m l s) :
    Calls Tryd.prog 20 #[I n, .pointer (some ⟨bm, 0, none⟩), .pointer (some ⟨bl, 0, none⟩), .pointer (some ⟨bi, 0, none⟩)] w fun e w' => e = .returned (.bool (canB s i n)) ∧ Below w.heap.size w w' := by
  have hbd := ends_bd hs hi
  cases c1 : decide (n < 0)
  · cases c2 : decide (1600 < n)
    · have hn : 0 ≤ n ∧ n ≤ 1600 := by simp at c1 c2; omega
      have HCE : Hid (∀ W, Below w.heap.size w W → W.cell? ⟨bm, 0, none⟩ = some (.slice A m.length c) ∧ W.cell? ⟨bl, 0, none⟩ = some (.slice B l.length d) ∧ W.cell? ⟨bi, 0, none⟩ = some (I i) ∧ Threes W W.heap.size B l) := Lib.hid fun W hW =>
        ⟨(hW.cell (p := ⟨_, _, none⟩) hbm).trans h1, (hW.cell (p := ⟨_, _, none⟩) hbl).trans h2, (hW.cell (p := ⟨_, _, none⟩) hbi).trans h3, (hl.below hW).more hW.size⟩
      obtain ⟨r, hr⟩ : ∃ r : Int, r = if canB s i n then 0 else 6 := ⟨_, rfl⟩
      have HFM : Hid (∀ B' c' W, Below w.heap.size w W → Threes W W.heap.size B' (l ++ [((i : Int), n, n)]) → Calls Tryd.prog 18 #[.slice A m.length c, .slice B' (l.length + 1) c'] W fun e w' => (∃ v, e = .returned (.tuple #[v, I r])) ∧ Below W.heap.size W w') := Lib.hid fun B' c' W hW hB' =>
        flows_more A B' c c' m l i n s W ((hm.below hW).more hW.size) hB' hok hlen hi hn hs r hr
      have HR : Hid ((r == 0) = canB s i n) := Lib.hid (by rw [hr]; cases canB s i n <;> rfl)
      have hr0 : (r == 0) = canB s i n := HR.out
      generalize canB s i n = b at *
      have HLE := Lib.hid hlen
      clear hr HR hs hok hm hl h1 h2 h3 hbd hn hlen hi
      have hl0 : Hid (Below w.heap.size w w) := Lib.hid (Below.refl _ _)
      obtain ⟨i0, hi0, hi1, hi2, hi3⟩ := info_parts info42
      have hu : Tryd.prog.underlying 23 = some (.slice 42) := Tryd.underlying23
      have HU := Lib.hid hu; have HI0 := Lib.hid hi0; have HI1 := Lib.hid hi1; have HI2 := Lib.hid hi2; have HI3 := Lib.hid hi3
      clear hu hi0 hi1 hi2 hi3
      go_enter Tryd.func20, Tryd.ntmps20
      go_wp2
      refine (wpIn_wide (n := 9)).1 ?_
      refine wpIn_region_opsU cLast [some 15, some 16, some 17, some 18, some 19, some 20, some 21, some 22, some 23, some 24, some 25, some 26, some 14, some 27, some 28, some 6, some 7]
        (cV (.slice A m.length c) (.slice B l.length d) i n r w.heap.size l) (fun j W W' => Below (if j = 10 then w.heap.size else W.heap.size) W W') (fun W => Below w.heap.size w W) rfl (by kernel_rfl) (by kernel_rfl) (by kernel_rfl) (fun _ d _ _ _ h => by cases d <;> exact h) (Below.refl _ _).drew
        (fun j W W' h hG => by
          by_cases e : j = 10
          · rw [if_pos e] at hG; exact h.trans hG
          · rw [if_neg e] at hG; exact h.trans (hG.mono h.size)) (fun i j v W W' hij hlj _ h hG => cV_stab _ _ _ _ _ _ _ i j v W W' hij hlj h hG) ?_ ?_
      · refine ⟨?_, ?_, ?_, ?_, ?_, ?_, ?_, ?_, ?_, ?_, ?_, ?_, ?_, ?_, ?_, ?_, ?_, trivial⟩
        · (intro val W hC hd K hK; have HC := Lib.hid hC; have HD := Lib.hid hd; have HK := Lib.hid hK; clear hC hd hK; simp only [putD, Act.put, List.setIfInBounds_toArray, List.set_cons_succ, List.set_cons_zero, Nat.zero_add, Nat.reduceAdd] at HK ⊢)
          obtain ⟨e0, e1, e2, _⟩ := HCE.out W HC.out
          gi_wp2
          exact HK.out _ _ (Below.refl _ _) rfl
        · (intro val W hC hd K hK; have HC := Lib.hid hC; have HD := Lib.hid hd; have HK := Lib.hid hK; clear hC hd hK; simp only [putD, Act.put, List.setIfInBounds_toArray, List.set_cons_succ, List.set_cons_zero, Nat.zero_add, Nat.reduceAdd] at HK ⊢)
          gi_wp2
          exact HK.out _ _ ((Below.refl _ _).alloc (Nat.le_refl _) _) ⟨_, rfl⟩
        · (intro val W hC hd K hK; have HC := Lib.hid hC; have HD := Lib.hid hd; have HK := Lib.hid hK; clear hC hd hK; simp only [putD, Act.put, List.setIfInBounds_toArray, List.set_cons_succ, List.set_cons_zero, Nat.zero_add, Nat.reduceAdd] at HK ⊢)
          obtain ⟨e0, e1, e2, _⟩ := HCE.out W HC.out
          gi_wp2
          exact HK.out _ _ (Below.refl _ _) rfl
        · (intro val W hC hd K hK; have HC := Lib.hid hC; have HD := Lib.hid hd; have HK := Lib.hid hK; clear hC hd hK; simp only [putD, Act.put, List.setIfInBounds_toArray, List.set_cons_succ, List.set_cons_zero, Nat.zero_add, Nat.reduceAdd] at HK ⊢)
          obtain ⟨g1, e1⟩ := HD.out.1 (.inl rfl)
          have e2 : val 2 = .slice B l.length d := HD.out.2.1 (.inl rfl)
          rw [e1, e2] at HK ⊢
          obtain ⟨_, _, _, hth⟩ := HCE.out W HC.out
          have HTH := Lib.hid hth
          have HZ := Lib.hid HC.out.size
          clear e1 e2 HD hth
          refine opIn_append_lit rfl W _ _ 23 rfl 42 i0 (.agg #[I 0, I 0, I 0]) 3 24 HU.out HI0.out HI1.out HI2.out HI3.out rfl (by decide) ⟨g1, 0, none⟩ rfl B l.length d (flat3 l) rfl (flat3_len l) (flat3_at HTH.out) (by have := HLE.out; unfold maxLen; omega) (by have := HLE.out; omega) ?_
          intro v' w' hown hgrow
          exact HK.out _ _ (grown_below hgrow (Nat.le_refl _) (by simp)) (hown.imp (fun h => own_base h HZ.out) (fun h => ⟨h.1, g1, h.2⟩))
        · (intro val W hC hd K hK; have HC := Lib.hid hC; have HD := Lib.hid hd; have HK := Lib.hid hK; clear hC hd hK; simp only [putD, Act.put, List.setIfInBounds_toArray, List.set_cons_succ, List.set_cons_zero, Nat.zero_add, Nat.reduceAdd] at HK ⊢)
          obtain ⟨e0, e1, e2, _⟩ := HCE.out W HC.out
          gi_wp2
          exact HK.out _ _ (Below.refl _ _) rfl
        · (intro val W hC hd K hK; have HC := Lib.hid hC; have HD := Lib.hid hd; have HK := Lib.hid hK; clear hC hd hK; simp only [putD, Act.put, List.setIfInBounds_toArray, List.set_cons_succ, List.set_cons_zero, Nat.zero_add, Nat.reduceAdd] at HK ⊢)
          gi_wp2
          exact HK.out _ _ (Below.refl _ _) rfl
        · (intro val W hC hd K hK; have HC := Lib.hid hC; have HD := Lib.hid hd; have HK := Lib.hid hK; clear hC hd hK; simp only [putD, Act.put, List.setIfInBounds_toArray, List.set_cons_succ, List.set_cons_zero, Nat.zero_add, Nat.reduceAdd] at HK ⊢)
          gi_wp2
          exact HK.out _ _ (Below.refl _ _) rfl
        · (intro val W hC hd K hK; have HC := Lib.hid hC; have HD := Lib.hid hd; have HK := Lib.hid hK; clear hC hd hK; simp only [putD, Act.put, List.setIfInBounds_toArray, List.set_cons_succ, List.set_cons_zero, Nat.zero_add, Nat.reduceAdd] at HK ⊢)
          have e1 : val 5 = I n := HD.out.1 (.inl rfl)
          have e2 : val 6 = I n := HD.out.2.1 (.inl rfl)
          rw [e1, e2] at HK ⊢
          gi_wp2_with (refine And.intro trivial ?_; gi_at_call 21; refine callsIn_wide.2 ((span21 _ _ _).mono ?_); rintro e w3 ⟨rfl, rfl⟩)
          exact HK.out _ _ ((Below.refl _ _).alloc (Nat.le_refl _) _) rfl
        · (intro val W hC hd K hK; have HC := Lib.hid hC; have HD := Lib.hid hd; have HK := Lib.hid hK; clear hC hd hK; simp only [putD, Act.put, List.setIfInBounds_toArray, List.set_cons_succ, List.set_cons_zero, Nat.zero_add, Nat.reduceAdd] at HK ⊢)
          have e1 : val 4 = I i := HD.out.1 (.inl rfl)
          have e2 : val 7 = .agg #[I n, I n] := HD.out.2.1 (.inl rfl)
          rw [e1, e2] at HK ⊢
          gi_wp2
          exact HK.out _ _ (Below.refl _ _) rfl
        · (intro val W hC hd K hK; have HC := Lib.hid hC; have HD := Lib.hid hd; have HK := Lib.hid hK; clear hC hd hK; simp only [putD, Act.put, List.setIfInBounds_toArray, List.set_cons_succ, List.set_cons_zero, Nat.zero_add, Nat.reduceAdd] at HK ⊢)
          have e1 : val 8 = .agg #[I i, I n, I n] := HD.out.1 (.inl rfl)
          rw [e1] at HK ⊢
          gi_wp2
          exact HK.out _ _ ((Below.refl _ _).alloc (Nat.le_refl _) _) ⟨_, rfl, Nat.zero_le _, by simp, fun k hk => by rcases k with _ | _ | _ | k <;> first | (simp [go_sem]; done) | (simp at hk; omega)⟩
        · (intro val W hC hd K hK; have HC := Lib.hid hC; have HD := Lib.hid hd; have HK := Lib.hid hK; clear hC hd hK; simp only [putD, Act.put, List.setIfInBounds_toArray, List.set_cons_succ, List.set_cons_zero, Nat.zero_add, Nat.reduceAdd] at HK ⊢)
          have h3 : W.ownsRow w.heap.size 42 3 (val 3) l.length (flat3 l) ∨ (l.length = 0 ∧ ∃ g, val 3 = .slice (some ⟨g, 0, none⟩) 0 0) := HD.out.1 (.inr rfl)
          obtain ⟨g9, e9, h9⟩ : ∃ g, val 9 = .slice (some ⟨g, 0, none⟩) 1 1 ∧ RowAt W 0 g [I i, I n, I n] := HD.out.2.1 (.inr rfl)
          have H9 := Lib.hid h9
          have HZ := Lib.hid HC.out.size
          have hfl : Hid (flat3 (l ++ [((i : Int), n, n)]) = flat3 l ++ [I i, I n, I n]) := Lib.hid (flat3_snoc l _)
          rcases h3 with h3 | ⟨hl0', g3, e3⟩
          · generalize val 3 = v3 at *
            rw [e9] at HK ⊢
            have H3 := Lib.hid h3
            clear e9 h9 HD h3
            refine opIn_append_own rfl W _ _ 23 rfl w.heap.size 42 i0 (.agg #[I 0, I 0, I 0]) 3 24 HU.out HI0.out HI1.out HI2.out HI3.out rfl (by decide) v3 l.length (flat3 l) rfl H3.out ⟨g9, 0, none⟩ 1 1 [I i, I n, I n] rfl rfl H9.out.src (by simp [Value.oneCell']) (by have := HLE.out; unfold maxLen; omega) (by have := HLE.out; omega) HZ.out ?_
            intro v' w' hown hgrow _
            refine HK.out _ _ (grown_below hgrow HZ.out (fun k hk => (H3.out.lt k hk).1)) ?_
            show w'.ownsRow w.heap.size 42 3 v' (l.length + 1) (flat3 (l ++ [((i : Int), n, n)]))
            rw [hfl.out]
            exact hown
          · rw [e3, e9] at HK ⊢
            have hle : Hid (l = []) := Lib.hid (List.eq_nil_of_length_eq_zero hl0')
            clear e3 e9 h9 HD hl0'
            refine opIn_append_grows rfl W _ _ 23 rfl 42 i0 (.agg #[I 0, I 0, I 0]) 3 24 HU.out HI0.out HI1.out HI2.out HI3.out rfl (by decide) ⟨g3, 0, none⟩ 0 0 [] rfl rfl (fun j u h => by simp at h) ⟨g9, 0, none⟩ 1 1 [I i, I n, I n] rfl rfl H9.out.src (by decide) (by decide) (by decide) ?_
            intro v' w' hown hgrow
            refine HK.out _ _ (grown_below hgrow HZ.out (fun k hk => by cases hk)) ?_
            show w'.ownsRow w.heap.size 42 3 v' (l.length + 1) (flat3 (l ++ [((i : Int), n, n)]))
            rw [hfl.out, hle.out]
            exact own_base hown HZ.out
        · (intro val W hC hd K hK; have HC := Lib.hid hC; have HD := Lib.hid hd; have HK := Lib.hid hK; clear hC hd hK; simp only [putD, Act.put, List.setIfInBounds_toArray, List.set_cons_succ, List.set_cons_zero, Nat.zero_add, Nat.reduceAdd] at HK ⊢)
          have e0 : val 0 = .slice A m.length c := HD.out.1 (.inl rfl)
          have h10 : W.ownsRow w.heap.size 42 3 (val 10) (l.length + 1) (flat3 (l ++ [((i : Int), n, n)])) := HD.out.2.1 (.inl rfl)
          obtain ⟨A10, c10, e10, ht10⟩ := threes_own (by simp) h10
          rw [e0, e10] at HK ⊢
          have HT := Lib.hid ht10
          clear e0 h10 e10 ht10 HD
          gi_wp2_with (refine And.intro trivial ?_; gi_at_call 18; refine callsIn_wide.2 ((HFM.out _ _ W HC.out HT.out).mono ?_); rintro e w3 ⟨⟨v, rfl⟩, hB3⟩)
          exact HK.out _ _ hB3 ⟨_, rfl⟩
        · (intro val W hC hd K hK; have HC := Lib.hid hC; have HD := Lib.hid hd; have HK := Lib.hid hK; clear hC hd hK; simp only [putD, Act.put, List.setIfInBounds_toArray, List.set_cons_succ, List.set_cons_zero, Nat.zero_add, Nat.reduceAdd] at HK ⊢)
          obtain ⟨u, e1⟩ : ∃ u, val 11 = .tuple #[u, I r] := HD.out.1 (.inl rfl)
          rw [e1] at HK ⊢
          gi_wp2
          exact HK.out _ _ (Below.refl _ _) ⟨u, rfl⟩
        · (intro val W hC hd K hK; have HC := Lib.hid hC; have HD := Lib.hid hd; have HK := Lib.hid hK; clear hC hd hK; simp only [putD, Act.put, List.setIfInBounds_toArray, List.set_cons_succ, List.set_cons_zero, Nat.zero_add, Nat.reduceAdd] at HK ⊢)
          obtain ⟨u, e1⟩ : ∃ u, val 12 = .tuple #[u, I r] := HD.out.1 (.inl rfl)
          rw [e1] at HK ⊢
          gi_wp2
          exact HK.out _ _ (Below.refl _ _) trivial
        · (intro val W hC hd K hK; have HC := Lib.hid hC; have HD := Lib.hid hd; have HK := Lib.hid hK; clear hC hd hK; simp only [putD, Act.put, List.setIfInBounds_toArray, List.set_cons_succ, List.set_cons_zero, Nat.zero_add, Nat.reduceAdd] at HK ⊢)
          obtain ⟨u, e1⟩ : ∃ u, val 12 = .tuple #[u, I r] := HD.out.1 (.inl rfl)
          rw [e1] at HK ⊢
          gi_wp2
          exact HK.out _ _ (Below.refl _ _) rfl
        · (intro val W hC hd K hK; have HC := Lib.hid hC; have HD := Lib.hid hd; have HK := Lib.hid hK; clear hC hd hK; simp only [putD, Act.put, List.setIfInBounds_toArray, List.set_cons_succ, List.set_cons_zero, Nat.zero_add, Nat.reduceAdd] at HK ⊢)
          gi_wp2
          exact HK.out _ _ (Below.refl _ _) trivial
        · (intro val W hC hd K hK; have HC := Lib.hid hC; have HD := Lib.hid hd; have HK := Lib.hid hK; clear hC hd hK; simp only [putD, Act.put, List.setIfInBounds_toArray, List.set_cons_succ, List.set_cons_zero, Nat.zero_add, Nat.reduceAdd] at HK ⊢)
          have e1 : val 14 = I r := HD.out.1 (.inl rfl)
          rw [e1] at HK ⊢
          gi_wp2
          exact HK.out _ _ (Below.refl _ _) rfl
      · intro val W hC hd
        have e16 : val 16 = I r := hd.2.2.2.2.2.2.2.2.2.2.2.2.2.2.2.2.1 rfl
        simp only [putD, Act.put, List.setIfInBounds_toArray, List.set_cons_succ, List.set_cons_zero, Nat.zero_add, Nat.reduceAdd]
        rw [e16]
        clear hd e16
        go_wp2
        go_ret
        exact ⟨rfl, hC⟩
    · have hb : canB s i n = false := decide_eq_false (by simp at c2; omega)
      rw [hb]
      clear hb hs hok hm hl h1 h2 h3 hbd hlen hi
      go_enter Tryd.func20, Tryd.ntmps20
      go_wp2
      go_ret
      exact ⟨rfl, Below.refl _ _⟩
  · have hb : canB s i n = false := decide_eq_false (by simp at c1; omega)
    rw [hb]
    clear hb hs hok hm hl h1 h2 h3 hbd hlen hi
    go_enter Tryd.func20, Tryd.ntmps20
    go_wp2
    go_ret
    exact ⟨rfl, Below.refl _ _⟩
end Go.Proofs.YtgdilbilhajgaaaDoor
