/- WellsProofs, plain: all rising lists of so many numbers, and the first that proves; the least cost of each number. -/
import Derived.Test.YtgdilbilhajgaaaDoorW4
import Derived.Test.YtgdilbilhajgaaaDoorW2
import Derived.Test.YtgdilbilhajgaaaDoorQ1
import Derived.Test.YtgdilbilhajgaaaDoorF1
import Derived.Test.YtgdilbilhajgaaaDoorD1
import Derived.Test.YtgdilbilhajgaaaDoorE25
namespace Go.Proofs.YtgdilbilhajgaaaDoor
set_option linter.unusedVariables false
set_option linter.unusedSimpArgs false
open Go Go.RowKit

/-- All rising lists of c numbers from f on, below n, in order. -/
def risL (n : Nat) : Nat → Nat → List (List Nat)
  | 0, _ => [[]]
  | c + 1, f => (List.range' f (n - f)).flatMap fun i => (risL n c (i + 1)).map (i :: ·)
/-- Those whose first number is below k. -/
def risTo (n c f k : Nat) : List (List Nat) := (List.range' f (k - f)).flatMap fun i => (risL n c (i + 1)).map (i :: ·)
theorem risTo_start (n c f : Nat) : risTo n c f f = [] := by simp [risTo]
theorem risTo_all (n c f : Nat) : risTo n c f n = risL n (c + 1) f := rfl
theorem risTo_succ (n c : Nat) {f k : Nat} (h : f ≤ k) : risTo n c f (k + 1) = risTo n c f k ++ (risL n c (k + 1)).map (k :: ·) := by
  unfold risTo
  rw [show k + 1 - f = (k - f) + 1 by omega, List.range'_concat, List.flatMap_append]
  simp [show f + (k - f) = k by omega]
theorem mem_risL (n : Nat) : ∀ (c f : Nat) (r : List Nat), r ∈ risL n c f ↔ r.length = c ∧ r.Pairwise (· < ·) ∧ ∀ k ∈ r, f ≤ k ∧ k < n
  | 0, f, r => by
    simp only [risL, List.mem_singleton]
    constructor
    · rintro rfl; simp
    · rintro ⟨h, _⟩; exact List.eq_nil_of_length_eq_zero h
  | c + 1, f, r => by
    simp only [risL, List.mem_flatMap, List.mem_map, List.mem_range'_1]
    constructor
    · rintro ⟨i, ⟨h1, h2⟩, s, hs, rfl⟩
      obtain ⟨a1, a2, a3⟩ := (mem_risL n c (i + 1) s).1 hs
      refine ⟨by simp [a1], List.pairwise_cons.2 ⟨fun k hk => by have := a3 k hk; omega, a2⟩, fun k hk => ?_⟩
      rcases List.mem_cons.1 hk with rfl | hk
      · omega
      · have := a3 k hk; omega
    · rintro ⟨h1, h2, h3⟩
      match r, h1, h2, h3 with
      | i :: s, h1, h2, h3 =>
        obtain ⟨b1, b2⟩ := List.pairwise_cons.1 h2
        have hi := h3 i (by simp)
        exact ⟨i, by omega, s, (mem_risL n c (i + 1) s).2 ⟨by simpa using h1, b2, fun k hk => ⟨b1 k hk, (h3 k (by simp [hk])).2⟩⟩, rfl⟩
theorem risL_sorted (n : Nat) : ∀ (c f : Nat), (risL n c f).Pairwise (· < ·)
  | 0, _ => by simp [risL]
  | c + 1, f => by
    unfold risL
    rw [List.pairwise_flatMap]
    refine ⟨fun i _ => ?_, ?_⟩
    · rw [List.pairwise_map]
      exact (risL_sorted n c (i + 1)).imp fun h => List.cons_lt_cons_iff.2 (.inr ⟨rfl, h⟩)
    · refine (List.pairwise_lt_range' (s := f) (n := n - f)).imp fun {i j} hij => ?_
      intro x hx y hy
      obtain ⟨s, _, rfl⟩ := List.mem_map.1 hx
      obtain ⟨t, _, rfl⟩ := List.mem_map.1 hy
      exact List.cons_lt_cons_iff.2 (.inl hij)
theorem flatMap_len {α β : Type} (f : α → List β) (b : Nat) : ∀ l : List α, (∀ a ∈ l, (f a).length ≤ b) → (l.flatMap f).length ≤ l.length * b
  | [], _ => by simp
  | a :: l, h => by
    have h1 := h a (by simp)
    have h2 := flatMap_len f b l (fun x hx => h x (by simp [hx]))
    simp only [List.flatMap_cons, List.length_append, List.length_cons, Nat.add_mul, Nat.one_mul]
    omega
theorem risL_len (n : Nat) : ∀ (c f : Nat), (risL n c f).length ≤ n ^ c
  | 0, _ => by simp [risL]
  | c + 1, f => by
    unfold risL
    refine Nat.le_trans (flatMap_len _ (n ^ c) _ fun i _ => by simpa using risL_len n c (i + 1)) ?_
    rw [List.length_range', Nat.pow_succ, Nat.mul_comm]
    exact Nat.mul_le_mul_left _ (Nat.sub_le _ _)
theorem risL_len6 {n c : Nat} (hn : n ≤ 6) (hc : c ≤ 6) (f : Nat) : (risL n c f).length ≤ 46656 := by
  refine Nat.le_trans (risL_len n c f) (Nat.le_trans (Nat.pow_le_pow_left hn c) ?_)
  exact Nat.le_trans (Nat.pow_le_pow_right (by decide) hc) (by decide)
theorem risTo_len {n c f k : Nat} (hk : k ≤ n) : (risTo n c f k).length ≤ (risL n (c + 1) f).length := by
  rw [← risTo_all]
  unfold risTo
  by_cases h : f ≤ k
  · rw [show n - f = (k - f) + (n - k) by omega, ← List.range'_append_1, List.flatMap_append, List.length_append]
    omega
  · rw [show k - f = 0 by omega]; simp
theorem risL_nil {n c f : Nat} (h : n ≤ f) : risL n (c + 1) f = [] := by
  unfold risL
  rw [show n - f = 0 by omega]
  rfl

section
variable {m : List (Int × Int)} {l : List (Int × Int × Int)} {mn : Nat}
/-- No list of fewer readings proves. -/
def NoLess (m : List (Int × Int)) (l : List (Int × Int × Int)) (mn c : Nat) : Prop := ∀ d, d < c → ∀ q ∈ risL l.length d 0, ¬ SureP m l mn q
theorem proof_here {c i : Nat} (h : NoLess m l mn c) (hi : i < (risL l.length c 0).length) (hn : ∀ j (hj : j < i), ¬ SureP m l mn ((risL l.length c 0)[j]'(by omega))) (hs : SureP m l mn (risL l.length c 0)[i]) : IsProof m l mn (risL l.length c 0)[i] := by
  obtain ⟨a1, a2, a3⟩ := (mem_risL l.length c 0 _).1 (List.getElem_mem hi)
  refine ⟨a2, fun k hk => (a3 k hk).2, hs, fun q hq hk hqs hlt => ?_⟩
  rcases hlt with hlt | ⟨he, hlt⟩
  · exact h q.length (by omega) q ((mem_risL _ _ _ _).2 ⟨rfl, hq, fun k hk' => ⟨Nat.zero_le _, hk k hk'⟩⟩) hqs
  · obtain ⟨j, hj, e⟩ := List.mem_iff_getElem.1 ((mem_risL l.length c 0 q).2 ⟨by omega, hq, fun k hk' => ⟨Nat.zero_le _, hk k hk'⟩⟩)
    subst e
    rcases Nat.lt_trichotomy j i with h1 | h1 | h1
    · exact hn j h1 hqs
    · subst h1
      exact List.lt_irrefl _ hlt
    · have := List.pairwise_iff_getElem.1 (risL_sorted l.length c 0) i j hi hj h1
      exact List.lt_irrefl _ (List.lt_trans hlt this)
theorem NoLess.succ {c : Nat} (h : NoLess m l mn c) (hn : ∀ j (hj : j < (risL l.length c 0).length), ¬ SureP m l mn (risL l.length c 0)[j]) : NoLess m l mn (c + 1) := fun d hd q hq hs => by
  rcases Nat.lt_succ_iff_lt_or_eq.1 hd with h1 | rfl
  · exact h d h1 q hq hs
  · obtain ⟨j, hj, rfl⟩ := List.mem_iff_getElem.1 hq
    exact hn j hj hs
theorem NoLess.none (h : NoLess m l mn (l.length + 1)) : ¬ SureP m l mn (List.range l.length) := fun hs =>
  h l.length (by omega) _ ((mem_risL _ _ _ _).2 ⟨by simp, List.pairwise_lt_range, fun k hk => ⟨Nat.zero_le _, List.mem_range.1 hk⟩⟩) hs
end

/-! The least cost of each number from 0 to 1600. -/
structure BestW (P : Int → Int → Prop) (f : Nat → Int) : Prop where
  bd : ∀ j, j ≤ 1600 → 0 ≤ f j ∧ f j ≤ neverW
  lo : ∀ (j : Nat) c, j ≤ 1600 → P j c → f j ≤ c ∧ f j < neverW
  is : ∀ j : Nat, j ≤ 1600 → f j < neverW → P j (f j)
/-- The least sum of two costs whose numbers together are n, of those whose second number is below k. -/
def convW (f g : Nat → Int) (n : Nat) : Nat → Int
  | 0 => neverW
  | k + 1 => min (convW f g n k) (f (n - k) + g k)
theorem convW_le (f g : Nat → Int) (n : Nat) : ∀ k, convW f g n k ≤ neverW ∧ ∀ x, x < k → convW f g n k ≤ f (n - x) + g x
  | 0 => ⟨Int.le_refl _, fun x h => by omega⟩
  | k + 1 => by
    obtain ⟨h1, h2⟩ := convW_le f g n k
    refine ⟨by simp only [convW]; omega, fun x hx => ?_⟩
    simp only [convW]
    rcases Nat.lt_succ_iff_lt_or_eq.1 hx with h | rfl
    · have := h2 x h; omega
    · omega
theorem convW_is (f g : Nat → Int) (n : Nat) : ∀ k, convW f g n k = neverW ∨ ∃ x, x < k ∧ convW f g n k = f (n - x) + g x
  | 0 => .inl rfl
  | k + 1 => by
    simp only [convW]
    rcases convW_is f g n k with h | ⟨x, hx, h⟩
    · rw [h]
      rcases Int.le_total neverW (f (n - k) + g k) with h1 | h1
      · exact .inl (Int.min_eq_left h1)
      · exact .inr ⟨k, by omega, Int.min_eq_right h1⟩
    · rcases Int.le_total (convW f g n k) (f (n - k) + g k) with h1 | h1
      · exact .inr ⟨x, by omega, by rw [Int.min_eq_left h1]; exact h⟩
      · exact .inr ⟨k, by omega, Int.min_eq_right h1⟩
theorem convW_bd {f g : Nat → Int} (hf : ∀ j, j ≤ 1600 → 0 ≤ f j ∧ f j ≤ neverW) (hg : ∀ j, j ≤ 1600 → 0 ≤ g j ∧ g j ≤ neverW) {n : Nat} (hn : n ≤ 1600) : ∀ k, k ≤ n + 1 → 0 ≤ convW f g n k ∧ convW f g n k ≤ neverW
  | 0, _ => by simp [convW, neverW]
  | k + 1, hk => by
    have h1 := convW_bd hf hg hn k (by omega)
    have h2 := hf (n - k) (by omega)
    have h3 := hg k (by omega)
    simp only [convW]
    omega
section
variable {m : List (Int × Int)} {l : List (Int × Int × Int)}
theorem PAtt.bd (hm : MOk m) {ks : List Nat} {v c : Int} (h : PAtt m l ks v c) : 0 ≤ c ∧ c ≤ v := by
  obtain ⟨y, e, h, rfl, rfl⟩ := h
  have a := sumL_le (l := ks) (f := fun _ => 0) (g := e) (fun k hk => ((h k hk).bd hm).1)
  have b := sumL_le (l := ks) (f := e) (g := y) (fun k hk => ((h k hk).bd hm).2.1)
  rw [sumL_zero] at a
  exact ⟨a, b⟩
/-- One main more that flows in. -/
theorem BestW.conv (hm : MOk m) {ks : List Nat} {k : Nat} (hk : k ∉ ks) {f g h : Nat → Int} (hf : BestW (PAtt m l ks) f) (hg : BestW (Att m l k) g) (hh : ∀ n, n ≤ 1600 → h n = convW f g n (n + 1)) : BestW (PAtt m l (ks ++ [k])) h := by
  constructor
  · intro j hj
    rw [hh j hj]
    exact convW_bd hf.bd hg.bd hj _ (Nat.le_refl _)
  · intro j c hj hp
    obtain ⟨v1, c1, v2, c2, p1, p2, e1, rfl⟩ := (patt_snoc hk).1 hp
    have b1 := p1.bd hm
    have b2 := p2.bd hm
    obtain ⟨a, rfl⟩ : ∃ a : Nat, v1 = (a : Int) := ⟨v1.toNat, by omega⟩
    obtain ⟨b, rfl⟩ : ∃ b : Nat, v2 = (b : Int) := ⟨v2.toNat, by omega⟩
    have q1 := hf.lo a c1 (by omega) p1
    have q2 := hg.lo b c2 (by omega) p2
    rw [hh j hj]
    have q3 := (convW_le f g j (j + 1)).2 b (by omega)
    rw [show j - b = a by omega] at q3
    have : neverW = 1073741824 := rfl
    omega
  · intro j hj hlt
    rw [hh j hj] at hlt ⊢
    rcases convW_is f g j (j + 1) with h1 | ⟨x, hx, h1⟩
    · omega
    · have b1 := hf.bd (j - x) (by omega)
      have b2 := hg.bd x (by omega)
      rw [h1] at hlt ⊢
      have p1 := hf.is (j - x) (by omega) (by omega)
      have p2 := hg.is x (by omega) (by omega)
      exact (patt_snoc hk).2 ⟨_, _, _, _, p1, p2, by omega, rfl⟩
theorem BestW.nil : BestW (PAtt m l []) fun n => if n = 0 then 0 else neverW := by
  have hN : neverW = 1073741824 := rfl
  constructor
  · intro j _
    try simp only
    split <;> omega
  · intro j c _ h
    obtain ⟨h1, rfl⟩ := patt_nil.1 h
    obtain rfl : j = 0 := by omega
    simp [hN]
  · intro j _ h
    try simp only at h ⊢
    split at h
    · rename_i e
      subst e
      simp only [if_true]
      exact patt_nil.2 ⟨rfl, rfl⟩
    · omega
/-- What a main's readings say cuts the numbers. -/
theorem BestW.cut {P Q : Int → Int → Prop} {T : Int × Int} {f h : Nat → Int} (hf : BestW P f) (hQ : ∀ (j : Nat) c, Q j c ↔ P j c ∧ (T.1 ≤ j ∧ (j : Int) ≤ T.2)) (hh : ∀ n : Nat, n ≤ 1600 → h n = if (n : Int) < T.1 ∨ T.2 < (n : Int) then neverW else f n) : BestW Q h := by
  have hN : neverW = 1073741824 := rfl
  constructor
  · intro j hj
    have := hf.bd j hj
    rw [hh j hj]
    split <;> omega
  · intro j c hj hq
    obtain ⟨h1, h2⟩ := (hQ j c).1 hq
    rw [hh j hj, if_neg (by omega)]
    exact hf.lo j c hj h1
  · intro j hj hlt
    rw [hh j hj] at hlt ⊢
    split at hlt
    · omega
    · rename_i hn
      rw [if_neg hn]
      exact (hQ _ _).2 ⟨hf.is j hj hlt, by omega⟩
theorem BestW.well {i : Nat} (hm : MOk m) (hi : i < m.length) (hk : kids m i = []) : BestW (fun v c => 0 ≤ v ∧ v ≤ 100 ∧ c = max 0 (v - limW m i)) fun n => if n ≤ 100 then max 0 ((n : Int) - limW m i) else neverW := by
  have hN : neverW = 1073741824 := rfl
  have := hm.lim i hi
  constructor
  · intro j hj
    try simp only
    split <;> omega
  · rintro j c hj ⟨h1, h2, rfl⟩
    try simp only
    rw [if_pos (by omega)]
    omega
  · intro j hj hlt
    try simp only at hlt ⊢
    split at hlt
    · rename_i h
      rw [if_pos h]
      exact ⟨by omega, by omega, rfl⟩
    · omega
theorem BestW.node {i : Nat} (hm : MOk m) (hi : i < m.length) (hk : kids m i ≠ []) {f h : Nat → Int} (hf : BestW (PAtt m l (kids m i)) f) (hh : ∀ n : Nat, n ≤ 1600 → h n = if (n : Int) < (toldW l i).1 ∨ (toldW l i).2 < (n : Int) then neverW else f n) : BestW (Att m l i) h :=
  hf.cut (fun _ _ => att_node hi hk) hh
theorem BestW.leaf {i : Nat} (hm : MOk m) (hi : i < m.length) (hk : kids m i = []) {f h : Nat → Int} (hf : ∀ n, n ≤ 1600 → f n = if n ≤ 100 then max 0 ((n : Int) - limW m i) else neverW) (hh : ∀ n : Nat, n ≤ 1600 → h n = if (n : Int) < (toldW l i).1 ∨ (toldW l i).2 < (n : Int) then neverW else f n) : BestW (Att m l i) h :=
  (BestW.well hm hi hk).cut (fun _ _ => att_well hi hk) fun n hn => by rw [hh n hn, hf n hn]
/-- The least of all. -/
def leastTo (f : Nat → Int) : Nat → Int
  | 0 => neverW
  | k + 1 => min (leastTo f k) (f k)
theorem leastTo_le (f : Nat → Int) : ∀ k, leastTo f k ≤ neverW ∧ ∀ x, x < k → leastTo f k ≤ f x
  | 0 => ⟨Int.le_refl _, fun x h => by omega⟩
  | k + 1 => by
    obtain ⟨h1, h2⟩ := leastTo_le f k
    refine ⟨by simp only [leastTo]; omega, fun x hx => ?_⟩
    simp only [leastTo]
    rcases Nat.lt_succ_iff_lt_or_eq.1 hx with h | rfl
    · have := h2 x h; omega
    · omega
theorem leastTo_is (f : Nat → Int) : ∀ k, leastTo f k = neverW ∨ ∃ x, x < k ∧ leastTo f k = f x
  | 0 => .inl rfl
  | k + 1 => by
    simp only [leastTo]
    rcases leastTo_is f k with h | ⟨x, hx, h⟩
    · rw [h]
      rcases Int.le_total neverW (f k) with h1 | h1
      · exact .inl (Int.min_eq_left h1)
      · exact .inr ⟨k, by omega, Int.min_eq_right h1⟩
    · rcases Int.le_total (leastTo f k) (f k) with h1 | h1
      · exact .inr ⟨x, by omega, by rw [Int.min_eq_left h1]; exact h⟩
      · exact .inr ⟨k, by omega, Int.min_eq_right h1⟩
theorem isExcess_best (hm : MOk m) {f : Nat → Int} (hf : BestW (Att m l 0) f) (hx : ∃ x, Feas m l x) : IsExcess m l (leastTo f 1601) := by
  obtain ⟨x, hx⟩ := hx
  obtain ⟨c0, h0⟩ := att_some hm hx (i := 0) (by have := hm.pos; omega)
  have key : ∀ v c, Att m l 0 v c → ∃ j : Nat, j ≤ 1600 ∧ v = (j : Int) ∧ f j ≤ c ∧ f j < neverW := fun v c h => by
    have b := h.bd hm
    obtain ⟨j, rfl⟩ : ∃ j : Nat, v = (j : Int) := ⟨v.toNat, by omega⟩
    exact ⟨j, by omega, rfl, hf.lo j c (by omega) h⟩
  obtain ⟨j0, hj0, _, h1, h2⟩ := key _ _ h0
  have hl := (leastTo_le f 1601).2 j0 (by omega)
  refine isExcess_of_att hm ?_ fun v c h => ?_
  · rcases leastTo_is f 1601 with h3 | ⟨x, hx, h3⟩
    · omega
    · refine ⟨(x : Int), ?_⟩
      rw [h3]
      exact hf.is x (by omega) (by omega)
  · obtain ⟨j, hj, _, h3, h4⟩ := key _ _ h
    have := (leastTo_le f 1601).2 j (by omega)
    omega
end
end Go.Proofs.YtgdilbilhajgaaaDoor
/- The document's Proof: rows of lists, all sets, Sure, and the first that proves. -/
namespace Go.Proofs.YtgdilbilhajgaaaDoor
set_option linter.unusedVariables false
set_option linter.unusedSimpArgs false
open Go Go.RowKit

/-! A literal that has grown, or not yet. -/
def LitRow (w : World) (base : Nat) (e : TypeId) (size : Nat) (v : Value) (n : Nat) (xs : List Value) : Prop := w.ownsRow base e size v n xs ∨ (n = 0 ∧ xs = [] ∧ ∃ b, v = .slice (some b) 0 0)
theorem own_weak {w : World} {base base' n size : Nat} {e : TypeId} {v : Value} {xs : List Value} (h : w.ownsRow base e size v n xs) (hb : base' ≤ base) : w.ownsRow base' e size v n xs :=
  ⟨h.1, h.2.imp id fun ⟨g, cap, cur, h1, h2, h3⟩ => ⟨g, cap, cur, h1, Nat.le_trans hb h2, h3⟩⟩
section
variable {P : Program}
theorem wpList_append_litrow (w : World) {ops : Array Oper} {rest : List Oper} {o : Oper} {a : Act} {Q : Exit → Act → World → Prop} (hgd : o.guard = none) (s x : Operand) (t : TypeId)
    (ho : o.op = .call { callee := .builtin .append, args := #[s, x], argTypes := #[t, t] })
    (base : Nat) (e : TypeId) (i : TypeInfo) (z : Value) (size bytes : Nat) (ht : P.underlying t = some (.slice e)) (hi : P.info? e = some i) (hz : i.zero = some z)
    (hsize : i.size = size) (hby : i.bytes = bytes) (hzs : z.cells.size = size) (hsz : 0 < size)
    (v : Value) (k : Nat) (xs : List Value) (hs : a.eval s = v) (hown : LitRow w base e size v k xs)
    (A : Option Addr) (m c : Nat) (news : List Value) (hx : a.eval x = .slice A m c) (hl : news.length = m * size) (hnews : 0 < m → ∃ ad, A = some ad ∧ ∀ j u, news[j]? = some u → w.cell? (ad.add j) = some u) (h1 : ∀ u ∈ news, u.oneCell' = true)
    (h63 : k + m ≤ maxLen) (hbytes : (k + m) * bytes ≤ 140737488355328) (hbase : base ≤ w.heap.size)
    (h : ∀ v' w', LitRow w' base e size v' (k + m) (xs ++ news) → Below base w w' → wpList P ops Q rest (a.put o.dst v') w') : wpList P ops Q (o :: rest) a w :=
  wpList_plain hgd fun _ hK => by
    have key : ∃ v' w', (Builtin.append_ #[t, t] o.type #[v, .slice A m c]).run P w = .ok v' w' ∧ LitRow w' base e size v' (k + m) (xs ++ news) ∧ Below base w w' := by
      rcases hown with hown | ⟨rfl, rfl, b, rfl⟩
      · obtain ⟨v', w', hr, h2, h3⟩ := run_append_any (P := P) w base t o.type e i z size bytes ht hi hz hsize hby hzs hsz v k xs hown A m c news hl hnews h1 h63 hbytes hbase
        exact ⟨v', w', hr, .inl h2, (Below.refl _ _).grown h3 hbase (fun g hg => (hown.lt g hg).1)⟩
      · obtain ⟨v', w', hr, h2, h3⟩ := run_append_lit (P := P) w t o.type e i z size bytes ht hi hz hsize hby hzs hsz b A m c news hl hnews (by omega) (by simpa using hbytes)
        refine ⟨v', w', hr, ?_, (Below.refl _ _).grown h3 hbase (fun g hg => by cases hg)⟩
        rcases h2 with h2 | ⟨rfl, rfl⟩
        · exact .inl (by simpa using own_weak h2 hbase)
        · obtain rfl : news = [] := List.eq_nil_of_length_eq_zero (by omega)
          exact .inr ⟨rfl, rfl, b, rfl⟩
    obtain ⟨v', w', hr, h2, h3⟩ := key
    unfold Oper.wp execOp
    simp only [ho, resolve, invoke, builtin, Sem.run_bind, Sem.run_pure, Result.andThen_ok, List.map_toArray, List.map_cons, List.map_nil, hs, hx, hr]
    exact hK _ _ (h v' w' h2 h3)
end

abbrev natQ (b : List Nat) : List Int := b.map fun k : Nat => (k : Int)
/-- A row of one's own whose elements are lists of numbers. -/
def SetsAt (W : World) (base : Nat) (v : Value) (L : List (List Nat)) : Prop :=
  ∃ xs, W.ownsRow base 26 1 v L.length xs ∧ ∀ i (h : i < L.length), ∃ A c, xs[i]? = some (.slice A L[i].length c) ∧ Ints W W.heap.size A (natQ L[i]) ∧ (L[i] ≠ [] → ∀ p, A = some p → v.ownBlock ≠ some p.block)
section
variable {W W' : World} {base : Nat} {v v' : Value} {L : List (List Nat)}
theorem SetsAt.nil (W : World) (base : Nat) : SetsAt W base (.slice none 0 0) [] := ⟨[], World.ownsRow_nil _ _ _ _, fun i h => by simp at h⟩
theorem SetsAt.call (h : SetsAt W base v L) (hB : Below W.heap.size W W') : SetsAt W' base v L := by
  obtain ⟨xs, h1, h2⟩ := h
  refine ⟨xs, grown_own h1 hB, fun i hi => ?_⟩
  obtain ⟨A, c, e, h3, h4⟩ := h2 i hi
  exact ⟨A, c, e, (h3.below hB).more hB.size, h4⟩
/-- One list more. -/
theorem SetsAt.snoc (h : SetsAt W base v L) {xs : List Value} (hx : W.ownsRow base 26 1 v L.length xs) {b : List Nat} {A : Option Addr} {c : Nat} (hb : Ints W W.heap.size A (natQ b)) (hA : b ≠ [] → ∀ p, A = some p → v.ownBlock ≠ some p.block) {o : Obj}
    (hg : (W.alloc o).grownBy W' v.ownBlock) (hat : v'.ownBlock = v.ownBlock ∨ v'.ownBlock = some (W.alloc o).heap.size) (hown : W'.ownsRow base 26 1 v' (L.length + 1) (xs ++ [.slice A b.length c]))
    (hxs : ∀ i (h : i < L.length), ∃ A c, xs[i]? = some (.slice A L[i].length c) ∧ Ints W W.heap.size A (natQ L[i]) ∧ (L[i] ≠ [] → ∀ p, A = some p → v.ownBlock ≠ some p.block)) : SetsAt W' base v' (L ++ [b]) := by
  have hsz : W.heap.size ≤ W'.heap.size := by have := hg.size; simp at this; omega
  have key : ∀ {A : Option Addr} {q : List Nat}, Ints W W.heap.size A (natQ q) → (q ≠ [] → ∀ p, A = some p → v.ownBlock ≠ some p.block) → Ints W' W'.heap.size A (natQ q) ∧ (q ≠ [] → ∀ p, A = some p → v'.ownBlock ≠ some p.block) := fun {A q} hi hn => by
    refine ⟨fun h0 => ?_, fun hq p hp hv => ?_⟩
    · obtain ⟨b, off, rfl, hbz, hc⟩ := hi h0
      have hq : q ≠ [] := fun e => by subst e; simp at h0
      refine ⟨b, off, rfl, by omega, fun k hk => ?_⟩
      have h1 : W'.heap[b]? = (W.alloc o).heap[b]? := hg.block b (by simp; omega) (fun e => hn hq _ rfl e.symm)
      have h2 := ((Below.refl W.heap.size W).alloc (Nat.le_refl _) o).block b hbz
      exact (World.cell?_of_block (a := ⟨b, off + k, none⟩) (h1.trans h2)).trans (hc k hk)
    · rcases hat with e | e
      · exact hn hq p hp (e ▸ hv)
      · rw [e] at hv
        have h0 : 0 < (natQ q).length := by simp; exact List.length_pos_iff.2 hq
        obtain ⟨b, off, rfl, hbz, _⟩ := hi h0
        injection hp with hp
        subst hp
        simp at hv
        omega
  have hl : xs.length = L.length := by have := hx.1; omega
  refine ⟨_, by simpa using hown, fun i hi => ?_⟩
  rcases Nat.lt_or_ge i L.length with h1 | h1
  · obtain ⟨A', c', e, h3, h4⟩ := hxs i h1
    obtain ⟨k1, k2⟩ := key h3 h4
    have el : (L ++ [b])[i] = L[i] := List.getElem_append_left h1
    rw [el]
    exact ⟨A', c', by rw [List.getElem?_append_left (by omega)]; exact e, k1, k2⟩
  · obtain rfl : i = L.length := by simp at hi; omega
    obtain ⟨k1, k2⟩ := key hb hA
    have el : (L ++ [b])[L.length] = b := by simp
    rw [el]
    exact ⟨A, c, by rw [List.getElem?_append_right (by omega), hl]; simp, k1, k2⟩
end

/-- Where the next number begins. -/
def frL (b : List Nat) : Nat := match b.getLast? with
  | some x => x + 1
  | none => 0
theorem frL_snoc (b : List Nat) (x : Nat) : frL (b ++ [x]) = x + 1 := by simp [frL]
theorem natQ_snoc (b : List Nat) (k : Nat) : natQ (b ++ [k]) = natQ b ++ [(k : Int)] := by simp
theorem lit_ints {W : World} {base n : Nat} {v : Value} {xs : List Int} (h : LitRow W base 3 1 v n (xs.map I)) (hn : n = xs.length) (h0 : 0 < n) : ∃ A c, v = .slice A n c ∧ Ints W W.heap.size A xs ∧ ∀ p, A = some p → base ≤ p.block := by
  rcases h with h | ⟨h, _⟩
  · obtain ⟨A, k, c, rfl⟩ := own_slice h
    rcases own_form h with ⟨_, h2⟩ | ⟨g, cap, h1, h2, _, _⟩
    · omega
    · injection h1 with e1 e2 e3
      subst e1 e2 e3
      exact ⟨_, _, rfl, ints_of_own h hn, fun p hp => by injection hp with hp; subst hp; exact h2⟩
  · omega
theorem ints_cells {W : World} {B : Nat} {A : Option Addr} {xs : List Int} (h : Ints W B A xs) : 0 < xs.length → ∃ ad, A = some ad ∧ ∀ j u, (xs.map I)[j]? = some u → W.cell? (ad.add j) = some u := fun h0 => by
  obtain ⟨b, off, rfl, _, hc⟩ := h h0
  refine ⟨_, rfl, fun j u hu => ?_⟩
  rw [List.getElem?_map] at hu
  cases hx : xs[j]? with
  | none => rw [hx] at hu; cases hu
  | some y =>
    rw [hx] at hu
    obtain ⟨hj, rfl⟩ := List.getElem?_eq_some_iff.1 hx
    simp at hu
    subst hu
    have e : (⟨b, off, none⟩ : Addr).add j = ⟨b, off + j, none⟩ := by unfold Addr.add; split <;> simp_all
    rw [e]
    exact hc j hj
/-- What sets answers. -/
def Sets43 (n c : Nat) (b : List Nat) (v : Value) (L : List (List Nat)) (base : Nat) (w : World) (e : Ending) (w' : World) : Prop :=
  ∃ v', e = .returned v' ∧ SetsAt w' base v' (L ++ (risL n c (frL b)).map (b ++ ·)) ∧ Frm w.heap.size (fun g => v.ownBlock = some g) w w' ∧ (v'.ownBlock = v.ownBlock ∨ ∃ g, v'.ownBlock = some g ∧ w.heap.size ≤ g)
set_option maxRecDepth 100000 in
set_option maxHeartbeats 8000000 in
theorem sets43_zero (n : Nat) (b : List Nat) (A : Option Addr) (cb : Nat) (v : Value) (L : List (List Nat)) (base : Nat) (w : World) (hb : Ints w w.heap.size A (natQ b)) (hA : b ≠ [] → ∀ p, A = some p → v.ownBlock ≠ some p.block) (hS : SetsAt w base v L) (hbase : base ≤ w.heap.size) (hL : L.length ≤ 1000000) :
    Calls Tryd.prog 43 #[I n, I 0, .slice A b.length cb, v] w (Sets43 n 0 b v L base w) := by
  obtain ⟨i0, hi0, hi1, hi2, hi3⟩ := info_parts info26
  have hu : Tryd.prog.underlying 81 = some (.slice 26) := Tryd.underlying81
  have HU := Lib.hid hu; have HI0 := Lib.hid hi0; have HI1 := Lib.hid hi1; have HI2 := Lib.hid hi2; have HI3 := Lib.hid hi3
  clear hu hi0 hi1 hi2 hi3
  have HS := Lib.hid hS
  obtain ⟨xs, hx, hxs⟩ := hS
  have HX := Lib.hid hx
  have HXS := Lib.hid hxs
  have HA := Lib.hid hA
  have HB := Lib.hid hb
  obtain ⟨Av, kv, cv, hv⟩ := own_slice hx
  have HV := Lib.hid hv
  have HXA := Lib.hid (hx.alloc (.cells #[.slice A b.length cb] 26))
  have HC := Lib.hid (cell_one3 w (.slice A b.length cb) 26)
  clear hA hb hx hxs hv
  go_enter Tryd.func43, Tryd.ntmps43
  go_wp2_with (first
    | (at_builtin; refine wpList_append_own_at _ rfl _ _ 81 rfl base 26 i0 (.slice none 0 0) 1 24 HU.out HI0.out HI1.out HI2.out HI3.out rfl (by decide) _ _ _ rfl HXA.out ⟨w.heap.size, 0, none⟩ 1 1 [.slice A b.length cb] rfl rfl HC.out (by simp [Value.oneCell']) (by unfold maxLen; omega) (by omega) (by simp; omega) ?_; intro v' w' hown hgrow _ hat)
    | fail)
  go_ret
  refine ⟨v', rfl, ?_, ?_, ?_⟩
  · have := HS.out.snoc HX.out HB.out HA.out hgrow hat hown HXS.out
    simpa [risL] using this
  · exact ((Frm.refl _ _ _).alloc (Nat.le_refl _) _).grown hgrow (by simp) (fun k hk => .inr hk)
  · exact hat.imp id fun e => ⟨_, e, by simp⟩
theorem last_at {W : World} {B : Nat} {A : Option Addr} {b : List Nat} (h : Ints W B A (natQ b)) (h0 : 0 < b.length) : ∃ g off, A = some ⟨g, off, none⟩ ∧ g < B ∧ W.cell? ⟨g, off + (b.length - 1), none⟩ = some (I ((frL b : Int) - 1)) := by
  obtain ⟨g, off, e, hg, hc⟩ := h (by simpa using h0)
  refine ⟨g, off, e, hg, ?_⟩
  have := hc (b.length - 1) (by simp; omega)
  rw [this]
  have h2 : b.getLast? = some (b[b.length - 1]'(by omega)) := by rw [List.getLast?_eq_getElem?]; simp [h0]
  simp [frL, h2]
theorem frL_le {b : List Nat} {n : Nat} (h : ∀ k ∈ b, k < n) : frL b ≤ n := by
  unfold frL
  split
  · rename_i x hx
    have := h x (List.mem_of_getLast? hx)
    omega
  · omega
theorem lit_next {H : Nat} {wr W0 w1 : World} (hH : H = wr.heap.size) (h0 : Below H wr W0) (h1 : Below H W0 w1) (o : Obj) : Below H wr (w1.alloc o) ∧ H ≤ (w1.alloc o).heap.size := by
  have hz := (h0.trans h1).size
  exact ⟨(h0.trans h1).alloc (by omega) _, by simp; omega⟩
theorem LitRow.alloc {w : World} {base n size : Nat} {e : TypeId} {v : Value} {xs : List Value} (h : LitRow w base e size v n xs) (o : Obj) : LitRow (w.alloc o) base e size v n xs := h.imp (fun h => h.alloc o) id
theorem sets_apart {W : World} {base H : Nat} {v : Value} {L : List (List Nat)} {A2 : Option Addr} (h : SetsAt W base v L) (hH : H = W.heap.size) (hp : ∀ p, A2 = some p → H ≤ p.block) : ∀ p, A2 = some p → v.ownBlock ≠ some p.block := fun p e hv => by
  obtain ⟨xs, hx, _⟩ := h
  have := (hx.lt _ hv).2
  have := hp p e
  omega
theorem sets_list (L R X : List (List Nat)) (b : List Nat) (k : Nat) : (L ++ R.map (b ++ ·)) ++ X.map ((b ++ [k]) ++ ·) = L ++ (R ++ X.map (k :: ·)).map (b ++ ·) := by
  simp [List.map_append, List.map_map, Function.comp_def]
theorem sets_frame {w wr w2 w3 : World} {v s : Value} (hF : Frm w.heap.size (fun g => v.ownBlock = some g) w wr) (hV : s.ownBlock = v.ownBlock ∨ ∃ g, s.ownBlock = some g ∧ w.heap.size ≤ g) (hB : Below wr.heap.size wr w2) (hF3 : Frm w2.heap.size (fun g => s.ownBlock = some g) w2 w3) : Frm w.heap.size (fun g => v.ownBlock = some g) w w3 :=
  (hF.then_ hB hF.size).trans (hF3.mono (by have := hF.size; have := hB.size; omega) (fun k hk hs => by
    rcases hV with h | ⟨g, h, hg⟩
    · exact h ▸ hs
    · rw [h] at hs
      injection hs with hs
      omega))
theorem sets_own {w : World} {v s v3 : Value} {z : Nat} (hV : s.ownBlock = v.ownBlock ∨ ∃ g, s.ownBlock = some g ∧ w.heap.size ≤ g) (hz : w.heap.size ≤ z) (h3 : v3.ownBlock = s.ownBlock ∨ ∃ g, v3.ownBlock = some g ∧ z ≤ g) : v3.ownBlock = v.ownBlock ∨ ∃ g, v3.ownBlock = some g ∧ w.heap.size ≤ g := by
  rcases h3 with h | ⟨g, h, hg⟩
  · rw [h]; exact hV
  · exact .inr ⟨g, h, by omega⟩
def Tok2 (_ : Nat) : Prop := True
set_option maxRecDepth 100000 in
set_option maxHeartbeats 16000000 in
theorem sets43 (n : Nat) (hn : n ≤ 6) : ∀ (c : Nat) (b : List Nat) (A : Option Addr) (cb : Nat) (v : Value) (L : List (List Nat)) (base : Nat) (w : World), (∀ k ∈ b, k < n) → b.length + c ≤ 6 → Ints w w.heap.size A (natQ b) → (b ≠ [] → ∀ p, A = some p → v.ownBlock ≠ some p.block) → SetsAt w base v L → base ≤ w.heap.size → L.length + (risL n c (frL b)).length ≤ 100000 →
    Calls Tryd.prog 43 #[I n, I c, .slice A b.length cb, v] w (Sets43 n c b v L base w)
  | 0, b, A, cb, v, L, base, w, _, _, hb, hA, hS, hbase, hL => sets43_zero n b A cb v L base w hb hA hS hbase (by omega)
  | c + 1, b, A, cb, v, L, base, w, hbn, hbc, hb, hA, hS, hbase, hL => by
    obtain ⟨f, hf⟩ : ∃ f, frL b = f := ⟨_, rfl⟩
    have hfn : f ≤ n := by rw [← hf]; exact frL_le hbn
    have HIH : Hid (∀ (k : Nat) (k2 : k < n) (A2 : Option Addr) (c2 : Nat) (v2 : Value) (L2 : List (List Nat)) (W : World), Ints W W.heap.size A2 (natQ b ++ [(k : Int)]) → (∀ p, A2 = some p → v2.ownBlock ≠ some p.block) → SetsAt W base v2 L2 → base ≤ W.heap.size → L2.length + (risL n c (k + 1)).length ≤ 100000 →
        Calls Tryd.prog 43 #[I n, I c, .slice A2 (b.length + 1) c2, v2] W (Sets43 n c (b ++ [k]) v2 L2 base W)) := Lib.hid fun k k2 A2 c2 v2 L2 W h1 h2 h3 h4 h5 => by
      have := sets43 n hn c (b ++ [k]) A2 c2 v2 L2 base W (fun j hj => by
        rcases List.mem_append.1 hj with h | h
        · exact hbn j h
        · rw [List.mem_singleton.1 h]; exact k2) (by simp; omega) (by rw [natQ_snoc]; exact h1) (fun _ => h2) h3 h4 (by rw [frL_snoc]; exact h5)
      rwa [List.length_append] at this
    have HS0 : Hid (SetsAt w base v (L ++ (risTo n c f f).map (b ++ ·))) := Lib.hid (by rw [risTo_start]; simpa using hS)
    have HLN : Hid (∀ k, f ≤ k → k < n → (L ++ (risTo n c f k).map (b ++ ·)).length + (risL n c (k + 1)).length ≤ 100000) := Lib.hid fun k h1 h2 => by
      have h3 := risTo_len (c := c) (f := f) (show k + 1 ≤ n by omega)
      rw [risTo_succ n c h1] at h3
      rw [hf] at hL
      simp at h3 ⊢
      omega
    have HF0 : Hid (Frm w.heap.size (fun g => v.ownBlock = some g) w w) := Lib.hid (Frm.refl _ _ _)
    have HV0 : Hid (v.ownBlock = v.ownBlock ∨ ∃ g, v.ownBlock = some g ∧ w.heap.size ≤ g) := Lib.hid (.inl rfl)
    have HFE : Hid (frL b = f) := Lib.hid hf
    have HB := Lib.hid hb
    have HCB := Lib.hid (ints_cells hb)
    have HOB : Hid (∀ g, v.ownBlock = some g → g < w.heap.size) := Lib.hid (by
      obtain ⟨xs, hx, _⟩ := hS
      exact fun g hg => (hx.lt g hg).2)
    have HLB : Hid (b.length ≤ 6) := Lib.hid (by omega)
    have HBA : Hid (b ≠ [] → ∀ p, A = some p → v.ownBlock ≠ some p.block) := Lib.hid hA
    obtain ⟨i0, hi0, hi1, hi2, hi3⟩ := info_parts info3b
    have hu : Tryd.prog.underlying 26 = some (.slice 3) := Tryd.underlying26
    have HU := Lib.hid hu; have HI0 := Lib.hid hi0; have HI1 := Lib.hid hi1; have HI2 := Lib.hid hi2; have HI3 := Lib.hid hi3
    clear hu hi0 hi1 hi2 hi3 hL hS hA
    have hc6 : c ≤ 6 := by omega
    have e43 : IntKind.i64.wrap ((c : Int) + 1 - 1) = (c : Int) := by rw [Int.add_sub_cancel]; exact IntWalk.i64_in _ (by omega)
    by_cases h0 : 0 < b.length
    · obtain ⟨g, off, hAe, hgz, hlast⟩ := last_at hb h0
      rw [hf] at hlast
      subst hAe
      have g0 : decide ((0 : Int) < (b.length : Int)) = true := decide_eq_true (by omega)
      have g0' : decide (0 < b.length) = true := decide_eq_true h0
      have gw : IntKind.i64.wrap ((f : Int) - 1 + 1) = (f : Int) := by rw [Int.sub_add_cancel]; exact IntWalk.i64_in _ (by omega)
      have gc0 : ((c : Int) + 1 == 0) = false := beq_eq_false_iff_ne.2 (by omega)
      have hb6 := HLB.out
      clear hb hbn hbc hf HV0
      go_enter Tryd.func43, Tryd.ntmps43
      go_wp2_with (fail)
      clear hlast g0 g0' gw
      go_loopw [3, 10] (fun s3 s10 wr => ∃ k : Nat, f ≤ k ∧ k ≤ n ∧ s10 = I k ∧ Hid (SetsAt wr base s3 (L ++ (risTo n c f k).map (b ++ ·))) ∧ Hid (Frm w.heap.size (fun g => v.ownBlock = some g) w wr) ∧ Hid (s3.ownBlock = v.ownBlock ∨ ∃ g, s3.ownBlock = some g ∧ w.heap.size ≤ g)) (fun _ s _ => n - (intOf s).toNat)
      case atStart => exact ⟨f, Nat.le_refl _, hfn, (by first | rfl | (rw [HF00.out]; rfl)), HS0, HF0, Lib.hid (.inl rfl)⟩
      case round =>
        clear HS0 HF0
        obtain ⟨k, hfk, hk, rfl, HS, HF, HV⟩ := hrel
        have hwz := HF.out.size
        by_cases hlt : k < n
        · have hbz : base ≤ wr.heap.size := by omega
          have HLK := Lib.hid (HLN.out k hfk hlt)
          have HRS := Lib.hid (risTo_succ n c hfk)
          have HIB : Hid (Ints wr wr.heap.size (some ⟨g, off, none⟩) (natQ b)) := Lib.hid (by
            refine fun h1 => ?_
            obtain ⟨g1, off1, e, hg, hc⟩ := HB.out h1
            refine ⟨g1, off1, e, by omega, fun j hj => ?_⟩
            rw [HF.out.cell hg (fun hv => HBA.out (fun e0 => by subst e0; simp at h1) _ e hv)]
            exact hc j hj)
          generalize risTo n c f k = R at *
          obtain ⟨L1, hL1⟩ : ∃ L1, L1 = L ++ R.map (b ++ ·) := ⟨_, rfl⟩
          rw [← hL1] at HS HLK
          have HL1 := Lib.hid hL1
          obtain ⟨A3, k3, c3, hs3⟩ : ∃ A3 k3 c3, u3 = .slice A3 k3 c3 := by obtain ⟨xs, hx, _⟩ := HS.out; exact own_slice hx
          subst hs3
          have p0 : (0 : Int) ≤ (k : Int) := by omega
          have hlb : decide ((k : Int) < (n : Int)) = true := decide_eq_true (by omega)
          have hlb' : decide (k < n) = true := decide_eq_true hlt
          have hb6 := HLB.out
          have tok1 : Tok2 1 := trivial
          have tok2 : Tok2 2 := trivial
          obtain ⟨H, hH⟩ : ∃ H, H = wr.heap.size := ⟨_, rfl⟩
          have HH := Lib.hid hH
          have HR0 : Hid (LitRow (wr.alloc (.cells #[] 3)) H 3 1 (.slice (some ⟨wr.heap.size, 0, none⟩) 0 0) 0 ((([] : List Int)).map I)) := Lib.hid (.inr ⟨rfl, rfl, _, rfl⟩)
          have HB0 : Hid (Below H wr (wr.alloc (.cells #[] 3))) := Lib.hid ((Below.refl _ _).alloc (by omega) _)
          have HC0 := Lib.hid (ints_cells (HIB.out.below (B := wr.heap.size) ((Below.refl _ _).alloc (Nat.le_refl _) (.cells #[] 3))))
          have HLT := Lib.hid hlt
          clear hL1 hH hlt hlb hlb'
          go_wp2_with (first
            | (at_builtin; have _t := tok1; refine wpList_append_litrow _ rfl _ _ 26 rfl H 3 i0 (I 0) 1 8 HU.out HI0.out HI1.out HI2.out HI3.out rfl (by decide) _ _ _ rfl HR0.out _ b.length _ ((natQ b).map I) rfl (by simp [natQ]) (fun h => HC0.out (by simpa [natQ] using h)) (fun u hu => by obtain ⟨z, _, rfl⟩ := List.mem_map.1 hu; rfl) (by unfold maxLen; omega) (by omega) (by rw [HH.out]; simp) ?_; intro v1 w1 hr1 hB1; have HR1 := Lib.hid (hr1.alloc (.cells #[I k] 3)); have HC1 := Lib.hid (cell_one3 w1 (I k) 3); obtain ⟨hB1', hz1⟩ := lit_next HH.out HB0.out hB1 (.cells #[I k] 3); have HB1 := Lib.hid hB1'; clear tok1 hr1 hB1 hB1')
            | (at_builtin; have _t := tok2; refine wpList_append_litrow _ rfl _ _ 26 rfl H 3 i0 (I 0) 1 8 HU.out HI0.out HI1.out HI2.out HI3.out rfl (by decide) _ _ _ rfl HR1.out (some ⟨w1.heap.size, 0, none⟩) 1 1 [I k] rfl rfl (fun _ => ⟨_, rfl, HC1.out⟩) (by simp [Value.oneCell']) (by unfold maxLen; omega) (by omega) hz1 ?_; intro v2 w2 hr2 hB2; obtain ⟨A2, c2, hv2, hi2, hp2⟩ := lit_ints (xs := natQ b ++ [(k : Int)]) (n := b.length + 1) (by simpa using hr2) (by simp [natQ]) (by omega); subst hv2; have HI4 := Lib.hid hi2; have HP2 := Lib.hid hp2; have HB2 : Hid (Below wr.heap.size wr w2) := Lib.hid (by (have := HB1.out.trans hB2; rwa [HH.out] at this)); clear tok2 hr2 hi2 hp2 hB2 hz1)
            | (go_at_call 43; refine (HIH.out k HLT.out A2 c2 _ L1 w2 HI4.out (sets_apart HS.out HH.out HP2.out) (HS.out.call HB2.out) (by (have := HB2.out.size; omega)) HLK.out).mono ?_; rintro e w3 ⟨v3, rfl, hS3, hF3, hV3⟩; have HS3 := Lib.hid hS3; have HF3 := Lib.hid hF3; have HV3 := Lib.hid hV3; clear hS3 hF3 hV3)
            | fail)
          have HN1 : Hid (SetsAt w3 base v3 (L ++ (risTo n c f (k + 1)).map (b ++ ·))) := Lib.hid (by rw [HRS.out, ← sets_list, ← HL1.out]; have := HS3.out; rwa [frL_snoc] at this)
          have HN2 : Hid (Frm w.heap.size (fun g => v.ownBlock = some g) w w3) := Lib.hid (sets_frame HF.out HV.out HB2.out HF3.out)
          have HN3 : Hid (v3.ownBlock = v.ownBlock ∨ ∃ g, v3.ownBlock = some g ∧ w.heap.size ≤ g) := Lib.hid (sets_own HV.out (by have := HB2.out.size; omega) HV3.out)
          go_roundw
          case rel => first | exact ⟨k + 1, by omega, by have := HLT.out; omega, by go_num, HN1, HN2, HN3⟩ | ((repeat apply Exists.intro); refine ⟨?_, rfl⟩; exact ⟨k + 1, by omega, by have := HLT.out; omega, by go_num, HN1, HN2, HN3⟩)
          case measure => have := HLT.out; first | (simp [intOf]; done) | (simp [intOf]; omega)
        · obtain rfl : n = k := by omega
          have hlb : decide ((n : Int) < (n : Int)) = false := decide_eq_false (by omega)
          have hlb' : decide (n < n) = false := decide_eq_false (by omega)
          clear hlt
          go_wp2
          go_ret
          exact ⟨_, rfl, by rw [HFE.out, ← risTo_all]; exact HS.out, HF.out, HV.out⟩
    · have HF00 : Hid (f = 0) := Lib.hid (by
        obtain rfl : b = [] := List.eq_nil_of_length_eq_zero (by omega)
        rw [← hf]; rfl)
      have g0 : decide ((0 : Int) < (b.length : Int)) = false := decide_eq_false (by omega)
      have g0' : decide (0 < b.length) = false := decide_eq_false h0
      have gc0 : ((c : Int) + 1 == 0) = false := beq_eq_false_iff_ne.2 (by omega)
      have hb6 := HLB.out
      clear hb hbn hbc hf HV0
      go_enter Tryd.func43, Tryd.ntmps43
      go_wp2_with (fail)
      clear g0 g0'
      go_loopw [3, 10] (fun s3 s10 wr => ∃ k : Nat, f ≤ k ∧ k ≤ n ∧ s10 = I k ∧ Hid (SetsAt wr base s3 (L ++ (risTo n c f k).map (b ++ ·))) ∧ Hid (Frm w.heap.size (fun g => v.ownBlock = some g) w wr) ∧ Hid (s3.ownBlock = v.ownBlock ∨ ∃ g, s3.ownBlock = some g ∧ w.heap.size ≤ g)) (fun _ s _ => n - (intOf s).toNat)
      case atStart => exact ⟨f, Nat.le_refl _, hfn, (by first | rfl | (rw [HF00.out]; rfl)), HS0, HF0, Lib.hid (.inl rfl)⟩
      case round =>
        clear HS0 HF0
        obtain ⟨k, hfk, hk, rfl, HS, HF, HV⟩ := hrel
        have hwz := HF.out.size
        by_cases hlt : k < n
        · have hbz : base ≤ wr.heap.size := by omega
          have HLK := Lib.hid (HLN.out k hfk hlt)
          have HRS := Lib.hid (risTo_succ n c hfk)
          have HIB : Hid (Ints wr wr.heap.size A (natQ b)) := Lib.hid (by
            refine fun h1 => ?_
            obtain ⟨g, off, e, hg, hc⟩ := HB.out h1
            refine ⟨g, off, e, by omega, fun j hj => ?_⟩
            rw [HF.out.cell hg (fun hv => HBA.out (fun e0 => by subst e0; simp at h1) _ e hv)]
            exact hc j hj)
          generalize risTo n c f k = R at *
          obtain ⟨L1, hL1⟩ : ∃ L1, L1 = L ++ R.map (b ++ ·) := ⟨_, rfl⟩
          rw [← hL1] at HS HLK
          have HL1 := Lib.hid hL1
          obtain ⟨A3, k3, c3, hs3⟩ : ∃ A3 k3 c3, u3 = .slice A3 k3 c3 := by obtain ⟨xs, hx, _⟩ := HS.out; exact own_slice hx
          subst hs3
          have p0 : (0 : Int) ≤ (k : Int) := by omega
          have hlb : decide ((k : Int) < (n : Int)) = true := decide_eq_true (by omega)
          have hlb' : decide (k < n) = true := decide_eq_true hlt
          have hb6 := HLB.out
          have tok1 : Tok2 1 := trivial
          have tok2 : Tok2 2 := trivial
          obtain ⟨H, hH⟩ : ∃ H, H = wr.heap.size := ⟨_, rfl⟩
          have HH := Lib.hid hH
          have HR0 : Hid (LitRow (wr.alloc (.cells #[] 3)) H 3 1 (.slice (some ⟨wr.heap.size, 0, none⟩) 0 0) 0 ((([] : List Int)).map I)) := Lib.hid (.inr ⟨rfl, rfl, _, rfl⟩)
          have HB0 : Hid (Below H wr (wr.alloc (.cells #[] 3))) := Lib.hid ((Below.refl _ _).alloc (by omega) _)
          have HC0 := Lib.hid (ints_cells (HIB.out.below (B := wr.heap.size) ((Below.refl _ _).alloc (Nat.le_refl _) (.cells #[] 3))))
          have HLT := Lib.hid hlt
          clear hL1 hH hlt hlb hlb'
          go_wp2_with (first
            | (at_builtin; have _t := tok1; refine wpList_append_litrow _ rfl _ _ 26 rfl H 3 i0 (I 0) 1 8 HU.out HI0.out HI1.out HI2.out HI3.out rfl (by decide) _ _ _ rfl HR0.out _ b.length _ ((natQ b).map I) rfl (by simp [natQ]) (fun h => HC0.out (by simpa [natQ] using h)) (fun u hu => by obtain ⟨z, _, rfl⟩ := List.mem_map.1 hu; rfl) (by unfold maxLen; omega) (by omega) (by rw [HH.out]; simp) ?_; intro v1 w1 hr1 hB1; have HR1 := Lib.hid (hr1.alloc (.cells #[I k] 3)); have HC1 := Lib.hid (cell_one3 w1 (I k) 3); obtain ⟨hB1', hz1⟩ := lit_next HH.out HB0.out hB1 (.cells #[I k] 3); have HB1 := Lib.hid hB1'; clear tok1 hr1 hB1 hB1')
            | (at_builtin; have _t := tok2; refine wpList_append_litrow _ rfl _ _ 26 rfl H 3 i0 (I 0) 1 8 HU.out HI0.out HI1.out HI2.out HI3.out rfl (by decide) _ _ _ rfl HR1.out (some ⟨w1.heap.size, 0, none⟩) 1 1 [I k] rfl rfl (fun _ => ⟨_, rfl, HC1.out⟩) (by simp [Value.oneCell']) (by unfold maxLen; omega) (by omega) hz1 ?_; intro v2 w2 hr2 hB2; obtain ⟨A2, c2, hv2, hi2, hp2⟩ := lit_ints (xs := natQ b ++ [(k : Int)]) (n := b.length + 1) (by simpa using hr2) (by simp [natQ]) (by omega); subst hv2; have HI4 := Lib.hid hi2; have HP2 := Lib.hid hp2; have HB2 : Hid (Below wr.heap.size wr w2) := Lib.hid (by (have := HB1.out.trans hB2; rwa [HH.out] at this)); clear tok2 hr2 hi2 hp2 hB2 hz1)
            | (go_at_call 43; refine (HIH.out k HLT.out A2 c2 _ L1 w2 HI4.out (sets_apart HS.out HH.out HP2.out) (HS.out.call HB2.out) (by (have := HB2.out.size; omega)) HLK.out).mono ?_; rintro e w3 ⟨v3, rfl, hS3, hF3, hV3⟩; have HS3 := Lib.hid hS3; have HF3 := Lib.hid hF3; have HV3 := Lib.hid hV3; clear hS3 hF3 hV3)
            | fail)
          have HN1 : Hid (SetsAt w3 base v3 (L ++ (risTo n c f (k + 1)).map (b ++ ·))) := Lib.hid (by rw [HRS.out, ← sets_list, ← HL1.out]; have := HS3.out; rwa [frL_snoc] at this)
          have HN2 : Hid (Frm w.heap.size (fun g => v.ownBlock = some g) w w3) := Lib.hid (sets_frame HF.out HV.out HB2.out HF3.out)
          have HN3 : Hid (v3.ownBlock = v.ownBlock ∨ ∃ g, v3.ownBlock = some g ∧ w.heap.size ≤ g) := Lib.hid (sets_own HV.out (by have := HB2.out.size; omega) HV3.out)
          go_roundw
          case rel => first | exact ⟨k + 1, by omega, by have := HLT.out; omega, by go_num, HN1, HN2, HN3⟩ | ((repeat apply Exists.intro); refine ⟨?_, rfl⟩; exact ⟨k + 1, by omega, by have := HLT.out; omega, by go_num, HN1, HN2, HN3⟩)
          case measure => have := HLT.out; first | (simp [intOf]; done) | (simp [intOf]; omega)
        · obtain rfl : n = k := by omega
          have hlb : decide ((n : Int) < (n : Int)) = false := decide_eq_false (by omega)
          have hlb' : decide (n < n) = false := decide_eq_false (by omega)
          clear hlt
          go_wp2
          go_ret
          exact ⟨_, rfl, by rw [HFE.out, ← risTo_all]; exact HS.out, HF.out, HV.out⟩
end Go.Proofs.YtgdilbilhajgaaaDoor
/- The document's Sure and Proof. -/
namespace Go.Proofs.YtgdilbilhajgaaaDoor
set_option linter.unusedVariables false
set_option linter.unusedSimpArgs false
open Go Go.RowKit

open Classical in
set_option maxRecDepth 100000 in
set_option maxHeartbeats 4000000 in
theorem sure44 (A B : Option Addr) (c cb : Nat) (m : List (Int × Int)) (r : List (Int × Int × Int)) (mn : Nat) (w : World) (hok : MOk m) (hm : Pairs w w.heap.size A m) (hl : Threes w w.heap.size B r) (hll : r.length ≤ 9223372036854775807) (hmn : mn < m.length) (hf : ∃ x, Feas m r x) :
    Calls Tryd.prog 44 #[.slice A m.length c, .slice B r.length cb, I mn] w fun e w' => e = .returned (.bool (decide (∀ x, Feas m r x → limW m mn < x mn))) ∧ Below w.heap.size w w' := by
  obtain ⟨bb, hbb⟩ : ∃ bb, decide (∀ x, Feas m r x → limW m mn < x mn) = bb := ⟨_, rfl⟩
  rw [hbb]
  have HBB := Lib.hid hbb
  clear hbb
  have HF := Lib.hid (flows66 A B c cb m r w hok hm hl hll)
  have HFE := Lib.hid hf
  have HM := Lib.hid hm
  clear hm hl hf
  go_enter Tryd.func44, Tryd.ntmps44
  go_wp2_with (first
    | (go_at_call 66; refine HF.out.mono ?_; rintro e w1 ⟨hB1, ⟨h, rfl⟩ | ⟨S, sl, rfl, hS, hSp, hsl, hsp⟩⟩)
    | fail)
  · exact absurd HFE.out h
  · have hks : mn < sl.length := by omega
    obtain ⟨d0, d1, _, _⟩ := hSp.2 mn hks
    have hse : sl[mn] = sF sl mn := by simp [sF, List.getD, hks]
    obtain ⟨ab, ao, hAe, habz, hac⟩ := HM.out.below hB1 (by omega)
    subst hAe
    have e2 := (hac mn hmn).2
    have hme : m[mn].2 = limW m mn := by simp [limW, List.getD, hmn]
    rw [hse] at d0
    rw [hme] at e2
    have hiff := sure_spans hsp hmn (limW m mn)
    have HEQ : Hid (decide (limW m mn < (sF sl mn).1) = decide (∀ x, Feas m r x → limW m mn < x mn)) := Lib.hid (by simp only [hiff])
    rw [HBB.out] at HEQ
    have hSz := hSp.1
    have p0 : (0 : Int) ≤ (mn : Int) := by omega
    have p1 : (mn : Int) < (m.length : Int) := by omega
    clear d1 hac hse hme hiff hsp hSp
    generalize (sF sl mn).1 = lo at *
    generalize limW m mn = lm at *
    obtain ⟨b, hb⟩ : ∃ b, decide (lm < lo) = b := ⟨_, rfl⟩
    rw [hb] at HEQ
    cases b
    all_goals
      go_wp2_with (fail)
      go_quiet (fail)
      go_wp2
      go_ret
      exact ⟨ret_b HEQ.out, below_drewN hB1 _⟩

/-- What the document's Proof answers. -/
def Pr14 (m : List (Int × Int)) (l : List (Int × Int × Int)) (main : Int) (w : World) (e : Ending) (w' : World) : Prop :=
  Below w.heap.size w w' ∧ ((¬ InOk m l ∧ e = .returned (.tuple #[nilS, I 1])) ∨ (InOk m l ∧ inB main 0 ((m.length : Int) - 1) = false ∧ e = .returned (.tuple #[nilS, I 2])) ∨
    (InOk m l ∧ inB main 0 ((m.length : Int) - 1) = true ∧ (¬ ∃ x, Feas m l x) ∧ e = .returned (.tuple #[nilS, I 6])) ∨
    (InOk m l ∧ inB main 0 ((m.length : Int) - 1) = true ∧ (∃ x, Feas m l x) ∧ (¬ SureP m l main.toNat (List.range l.length)) ∧ e = .returned (.tuple #[nilS, I 4])) ∨
    (InOk m l ∧ inB main 0 ((m.length : Int) - 1) = true ∧ (∃ x, Feas m l x) ∧ ∃ A c p, e = .returned (.tuple #[.slice A p.length c, I 0]) ∧ Ints w' w'.heap.size A (natQ p) ∧ IsProof m l main.toNat p))
theorem within42 (n lo hi : Int) (w : World) : Calls Tryd.prog 42 #[I n, I lo, I hi] w fun e w' => e = .returned (.bool (inB n lo hi)) ∧ w = w' := by
  unfold inB
  cases h1 : decide (lo ≤ n) <;> cases h2 : decide (n ≤ hi)
  all_goals
    go_enter Tryd.func42, Tryd.ntmps42
    go_wp2
    go_ret
    exact ⟨rfl, rfl⟩
theorem sets_at {W : World} {base : Nat} {v : Value} {L : List (List Nat)} (h : SetsAt W base v L) : ∃ A c, v = .slice A L.length c ∧ ∀ i (h : i < L.length), ∃ g, A = some ⟨g, 0, none⟩ ∧ g < W.heap.size ∧ ∃ Ai ci, W.cell? ⟨g, i, none⟩ = some (.slice Ai L[i].length ci) ∧ Ints W W.heap.size Ai (natQ L[i]) := by
  obtain ⟨xs, hx, hxs⟩ := h
  obtain ⟨A, k, c, rfl⟩ := own_slice hx
  rcases own_form hx with ⟨h1, h2⟩ | ⟨g, cap, h1, h2, h3, _⟩
  · injection h1 with e1 e2 e3
    subst e1 e2 e3
    exact ⟨none, 0, by rw [h2], fun i hi => by omega⟩
  · injection h1 with e1 e2 e3
    subst e1 e2 e3
    refine ⟨_, _, rfl, fun i hi => ⟨g, rfl, h3, ?_⟩⟩
    obtain ⟨Ai, ci, e, hi2, _⟩ := hxs i hi
    have := hx.cells (g := g) rfl i _ e
    rw [Addr.add_lit, Nat.zero_add] at this
    exact ⟨Ai, ci, this, hi2⟩
open Classical in
set_option maxRecDepth 100000 in
set_option maxHeartbeats 8000000 in
theorem proof14 (A B : Option Addr) (c cb : Nat) (main : Int) (m : List (Int × Int)) (l : List (Int × Int × Int)) (w : World) (h6 : InOk m l → l.length ≤ 6) (hm : Pairs w w.heap.size A m) (hml : m.length ≤ 9223372036854775807) (hl : Threes w w.heap.size B l) (hll : l.length ≤ 9223372036854775807) :
    Calls Tryd.prog 14 #[.slice A m.length c, .slice B l.length cb, I main] w (Pr14 m l main w) := by
  have HE : Hid (∀ b, Calls Tryd.prog 41 #[.slice A m.length c, .slice B l.length cb, .bool b] w (Er41 m l b w)) := Lib.hid fun b => errors41 A B c cb m l b w hm hml hl hll
  have HW : Hid (∀ W, Calls Tryd.prog 42 #[I main, I 0, I ((m.length : Int) - 1)] W fun e w' => e = .returned (.bool (inB main 0 ((m.length : Int) - 1))) ∧ W = w') := Lib.hid fun W => within42 _ _ _ W
  have HSM : Hid (∀ (Q : Option Addr) (cq : Nat) (q : List Nat) W, Below w.heap.size w W → Ints W W.heap.size Q (natQ q) → (∀ k ∈ q, k < l.length) → q.length ≤ 1000 → Calls Tryd.prog 31 #[.slice B l.length cb, .slice Q q.length cq] W fun e w' => ∃ A c, e = .returned (.slice A q.length c) ∧ Threes w' w'.heap.size A (someL l q) ∧ Below W.heap.size W w') := Lib.hid fun Q cq q W hW h1 h2 h3 =>
    some31 B Q cb cq l q W ((hl.below hW).more hW.size) hll h1 h2 h3
  have HSU : Hid (MOk m → ∀ (mn : Nat), mn < m.length → ∀ (q : List Nat) (A' : Option Addr) (c' : Nat) W, Below w.heap.size w W → Threes W W.heap.size A' (someL l q) → q.length ≤ 1000 → (∃ x, Feas m (someL l q) x) → Calls Tryd.prog 44 #[.slice A m.length c, .slice A' q.length c', I mn] W fun e w' => e = .returned (.bool (decide (SureP m l mn q))) ∧ Below W.heap.size W w') := Lib.hid fun h1 mn h2 q A' c' W hW h3 h4 h5 => by
    have hq : (someL l q).length = q.length := by simp [someL]
    have := sure44 A A' c c' m (someL l q) mn W h1 ((hm.below hW).more hW.size) h3 (by omega) h2 h5
    rwa [hq] at this
  have H6 := Lib.hid h6
  clear hm hl h6
  have b0 : (0 : Int) ≤ (m.length : Int) := by omega
  obtain ⟨bb, hbb⟩ : ∃ b, inB main 0 ((m.length : Int) - 1) = b := ⟨_, rfl⟩
  have HBB := Lib.hid hbb
  rw [hbb] at HW
  clear hbb
  cases bb
  · go_enter Tryd.func14, Tryd.ntmps14
    go_wp2_with (first
      | (go_at_call 42; refine (HW.out _).mono ?_; rintro e w1 ⟨rfl, rfl⟩)
      | (go_at_call 41; refine (HE.out true).mono ?_; rintro e w1 ⟨hB1, ⟨h, rfl⟩ | ⟨h, _, rfl⟩ | ⟨_, ht, _⟩ | ⟨_, ht, _⟩⟩ <;> (try cases ht) <;> (try have HNO := Lib.hid h) <;> (try clear h))
      | fail)
    · go_ret2
      exact ⟨hB1, .inl ⟨HNO.out, rfl⟩⟩
    · go_ret2
      exact ⟨hB1, .inr (.inl ⟨HNO.out, HBB.out, rfl⟩)⟩
  · have hmain : 0 ≤ main ∧ main ≤ (m.length : Int) - 1 := by
      have := HBB.out
      simpa [inB] using this
    obtain ⟨mn, rfl⟩ : ∃ mn : Nat, main = (mn : Int) := ⟨main.toNat, by omega⟩
    have hmn : mn < m.length := by omega
    go_enter Tryd.func14, Tryd.ntmps14
    go_wp2_with (first
      | (go_at_call 42; refine (HW.out _).mono ?_; rintro e w1 ⟨rfl, rfl⟩)
      | (go_at_call 41; refine (HE.out false).mono ?_; rintro e w1 ⟨hB1, ⟨h, rfl⟩ | ⟨_, ht, _⟩ | ⟨h, _, h2, rfl⟩ | ⟨h, _, S, sl, rfl, hS, hSp, hsl, hsp⟩⟩ <;> (try cases ht) <;> (try have HNO := Lib.hid h) <;> (try have HN2 := Lib.hid h2) <;> (try have HSS := Lib.hid hsp) <;> (try clear h2) <;> (try clear hSp hsp hS hsl) <;> (try clear h))
      | fail)
    · go_ret2
      exact ⟨hB1, .inl ⟨HNO.out, rfl⟩⟩
    · go_ret2
      exact ⟨hB1, .inr (.inr (.inl ⟨HNO.out, HBB.out, HN2.out, rfl⟩))⟩
    · have HFE : Hid (∃ x, Feas m l x) := Lib.hid HSS.out.some
      have hl6 := H6.out HNO.out
      have HSETS : Hid (∀ (k : Nat), k ≤ 6 → ∀ W, Calls Tryd.prog 43 #[I l.length, I k, .slice none 0 0, .slice none 0 0] W fun e w' => ∃ v, e = .returned v ∧ SetsAt w' W.heap.size v (risL l.length k 0) ∧ Below W.heap.size W w') := Lib.hid fun k hk W => by
        have h3 := sets43 l.length hl6 k [] none 0 (.slice none 0 0) [] W.heap.size W (fun _ h => by cases h) (by simpa using hk) (fun h => by simp at h) (fun h => absurd rfl h) (SetsAt.nil _ _) (Nat.le_refl _) (by have := risL_len6 (c := k) hl6 hk (frL []); simp; omega)
        refine h3.mono ?_
        rintro e w' ⟨v', rfl, h4, h5, _⟩
        refine ⟨v', rfl, by simpa [frL] using h4, h5.below (Nat.le_refl _) (fun k _ h => by cases h)⟩
      have HN0 : Hid (NoLess m l mn 0) := Lib.hid fun d hd => by omega
      go_loopw [10] (fun s10 wr => ∃ k : Nat, k ≤ l.length + 1 ∧ s10 = I k ∧ Below w.heap.size w wr ∧ Hid (NoLess m l mn k)) (fun s _ => l.length + 1 - (intOf s).toNat)
      case atStart => exact ⟨0, by omega, rfl, hB1, HN0⟩
      case round =>
        clear HN0 hB1
        obtain ⟨k, hk, rfl, hB, HN⟩ := hrel
        have hwz := hB.size
        by_cases hlt : k ≤ l.length
        · have hlb : decide ((k : Int) ≤ (l.length : Int)) = true := decide_eq_true (by omega)
          have hlb' : decide (k ≤ l.length) = true := decide_eq_true hlt
          go_wp2_with (first
            | (go_at_call 43; refine (HSETS.out k (by omega) _).mono ?_; rintro e w3 ⟨v, rfl, hv, hB3⟩; obtain ⟨Av, cv, hve, -⟩ := sets_at hv; subst hve; have HV := Lib.hid hv; have hBw3 := hB.trans (hB3.mono hwz); clear hv)
            | fail)
          have HLL : Hid ((risL l.length k 0).length ≤ 46656) := Lib.hid (risL_len6 hl6 (by omega) 0)
          have HIN : Hid (∀ (i : Nat) (h : i < (risL l.length k 0).length), (risL l.length k 0)[i].length = k ∧ ∀ j ∈ (risL l.length k 0)[i], j < l.length) := Lib.hid fun i h => by
            obtain ⟨a1, _, a3⟩ := (mem_risL l.length k 0 _).1 (List.getElem_mem h)
            exact ⟨a1, fun j hj => (a3 j hj).2⟩
          have HPR : Hid (∀ (i : Nat) (h : i < (risL l.length k 0).length), (∀ j (hj : j < i), ¬ SureP m l mn ((risL l.length k 0)[j]'(Nat.lt_trans hj h))) → SureP m l mn (risL l.length k 0)[i] → IsProof m l mn (risL l.length k 0)[i]) := Lib.hid fun i h h1 h2 => proof_here HN.out h h1 h2
          have HNS : Hid ((∀ j (hj : j < (risL l.length k 0).length), ¬ SureP m l mn (risL l.length k 0)[j]) → NoLess m l mn (k + 1)) := Lib.hid HN.out.succ
          generalize risL l.length k 0 = L at *
          have hLL := HLL.out
          go_loopw [12] (fun s12 wr => ∃ i : Nat, i ≤ L.length ∧ s12 = I i ∧ Below w3.heap.size w3 wr ∧ Hid (∀ j (hj : j < L.length), j < i → ¬ SureP m l mn L[j])) (fun s _ => L.length - (intOf s).toNat)
          case atStart => exact ⟨0, Nat.zero_le _, rfl, Below.refl _ _, Lib.hid fun j _ h => by omega⟩
          case round =>
            obtain ⟨i, hi, rfl, hB4, HNI⟩ := hrel
            have hB4w := hBw3.trans (hB4.mono hBw3.size)
            by_cases hli : i < L.length
            · obtain ⟨A5, c5, e5, h5⟩ := sets_at (HV.out.call hB4)
              injection e5 with e51 _ e53
              subst e51 e53
              obtain ⟨g, hge, hgz, Ai, ci, hc, hints⟩ := h5 i hli
              subst hge
              have HIQ := Lib.hid hints
              have HQ := Lib.hid (HIN.out i hli)
              have HPI := Lib.hid (HPR.out i hli)
              have HFS : Hid (∃ x, Feas m (someL l L[i]) x) := Lib.hid (by obtain ⟨x, hx⟩ := HFE.out; exact ⟨x, feas_some HQ.out.2 hx⟩)
              have HST : Hid (¬ SureP m l mn L[i] → ∀ j (hj : j < L.length), j < i + 1 → ¬ SureP m l mn L[j]) := Lib.hid fun h j hj hji => by
                rcases Nat.lt_succ_iff_lt_or_eq.1 hji with h1 | rfl
                · exact HNI.out j hj h1
                · exact h
              generalize L[i] = q at *
              have hql : q.length ≤ 6 := by have := HQ.out.1; omega
              have p0 : (0 : Int) ≤ (i : Int) := by omega
              have p1 : (i : Int) < (L.length : Int) := by omega
              clear hints h5
              by_cases hs : SureP m l mn q
              · have hsb : decide (SureP m l mn q) = true := decide_eq_true hs
                have HPF : Hid (IsProof m l mn q) := Lib.hid (HPI.out (fun j hj => HNI.out j (by omega) hj) hs)
                clear hs
                go_wp2_with (first
                  | (go_at_call 31; refine (HSM.out _ _ q _ hB4w HIQ.out HQ.out.2 (by omega)).mono ?_; rintro e w5 ⟨A6, c6, rfl, ht, hB5⟩; have HT := Lib.hid ht; have hc5 := (hB5.cell (p := ⟨g, i, none⟩) hgz).trans hc; have hB5w := hB4w.trans (hB5.mono hB4w.size); have HIQ5 := Lib.hid ((HIQ.out.below hB5).more hB5.size); have hgz5 : g < w5.heap.size := (by have := hB5.size; omega); clear ht hc)
                  | (go_at_call 44; refine (HSU.out HNO.out.1 mn hmn q _ _ _ hB5w HT.out (by omega) HFS.out).mono ?_; rw [hsb]; rintro e w6 ⟨rfl, hB6⟩; have hc6 := (hB6.cell (p := ⟨g, i, none⟩) hgz5).trans hc5; have hB6w := hB5w.trans (hB6.mono hB5w.size); have HIQ6 := Lib.hid ((HIQ5.out.below hB6).more hB6.size); clear hc5)
                  | fail)
                go_ret2
                exact ⟨hB6w, .inr (.inr (.inr (.inr ⟨HNO.out, HBB.out, HFE.out, _, _, q, rfl, HIQ6.out, HPF.out⟩)))⟩
              · have hsb : decide (SureP m l mn q) = false := decide_eq_false hs
                have HST2 := Lib.hid (HST.out hs)
                clear hs
                go_wp2_with (first
                  | (go_at_call 31; refine (HSM.out _ _ q _ hB4w HIQ.out HQ.out.2 (by omega)).mono ?_; rintro e w5 ⟨A6, c6, rfl, ht, hB5⟩; have HT := Lib.hid ht; have hB5w := hB4w.trans (hB5.mono hB4w.size); clear ht hc)
                  | (go_at_call 44; refine (HSU.out HNO.out.1 mn hmn q _ _ _ hB5w HT.out (by omega) HFS.out).mono ?_; rw [hsb]; rintro e w6 ⟨rfl, hB6⟩; have hB6r := (hB4.trans (hB5.mono hB4.size)).trans (hB6.mono (hB4.trans (hB5.mono hB4.size)).size))
                  | fail)
                go_roundw
                case rel => exact ⟨i + 1, by omega, by go_num, hB6r, HST2⟩
                case measure => first | (simp [intOf]; done) | (simp [intOf]; omega)
            · have HNN := Lib.hid (HNS.out fun j hj => HNI.out j hj (by omega))
              go_wp2
              go_roundw
              case rel => exact ⟨k + 1, by omega, by go_num, hB4w, HNN⟩
              case measure => first | (simp [intOf]; done) | (simp [intOf]; omega)
        · obtain rfl : k = l.length + 1 := by omega
          have hlb : decide (((l.length + 1 : Nat) : Int) ≤ (l.length : Int)) = false := decide_eq_false (by omega)
          have hlb' : decide (l.length + 1 ≤ l.length) = false := decide_eq_false (by omega)
          have HNN := Lib.hid HN.out.none
          clear hlt hk
          go_wp2
          go_ret2
          exact ⟨hB, .inr (.inr (.inr (.inl ⟨HNO.out, HBB.out, HFE.out, HNN.out, rfl⟩)))⟩
end Go.Proofs.YtgdilbilhajgaaaDoor
/- The document's excess: the least cost of each number, at a well and at a node. -/
namespace Go.Proofs.YtgdilbilhajgaaaDoor
set_option linter.unusedVariables false
set_option linter.unusedSimpArgs false
open Go Go.RowKit

/-- The kids below k. -/
def kidsBe (m : List (Int × Int)) (i k : Nat) : List Nat := (List.range k).filter fun j => decide (parW m j = (i : Int))
theorem kidsBe_succ (m : List (Int × Int)) (i k : Nat) : kidsBe m i (k + 1) = if parW m k = (i : Int) then kidsBe m i k ++ [k] else kidsBe m i k := by
  unfold kidsBe
  rw [List.range_succ, List.filter_append]
  by_cases h : parW m k = (i : Int) <;> simp [List.filter_cons, h]
theorem kidsBe_all (m : List (Int × Int)) (i : Nat) : kidsBe m i m.length = kids m i := rfl
theorem kidsBe_not (m : List (Int × Int)) (i k : Nat) : k ∉ kidsBe m i k := fun h => by
  have := List.mem_range.1 (List.mem_filter.1 h).1
  omega
theorem best_congr {P : Int → Int → Prop} {f g : Nat → Int} (h : BestW P f) (e : ∀ n, n ≤ 1600 → g n = f n) : BestW P g :=
  ⟨fun j hj => by rw [e j hj]; exact h.bd j hj, fun j c hj hp => by rw [e j hj]; exact h.lo j c hj hp, fun j hj hlt => by rw [e j hj] at hlt ⊢; exact h.is j hj hlt⟩
theorem box_madeL {W : World} {base g n : Nat} {e : TypeId} (h : W.ownsRow base e 1 (.slice (some ⟨g, 0, none⟩) n n) n (madeCells (I 0).cells (n * 1)).toList) : ∃ xl : List Int, Box W g (xl.map I) ∧ xl.length = n :=
  ⟨_, box_made h, by simp⟩
/-- What excess answers. -/
def Exc51 (m : List (Int × Int)) (l : List (Int × Int × Int)) (i : Nat) (w : World) (e : Ending) (w' : World) : Prop :=
  ∃ S xl, e = .returned (.slice (some ⟨S, 0, none⟩) 1601 1601) ∧ w.heap.size ≤ S ∧ Box w' S (xl.map I) ∧ xl.length = 1601 ∧ BestW (Att m l i) (xF xl) ∧ Below w.heap.size w w'
set_option maxRecDepth 100000 in
set_option maxHeartbeats 16000000 in
theorem excess51_leaf (A B : Option Addr) (c cb : Nat) (m : List (Int × Int)) (l : List (Int × Int × Int)) (hok : InOk m l) (i : Nat) (hi : i < m.length) (hk : kids m i = []) (w : World) (hm : Pairs w w.heap.size A m) (hl : Threes w w.heap.size B l) :
    Calls Tryd.prog 51 #[.slice A m.length c, .slice B l.length cb, I i] w (Exc51 m l i w) := by
  have HKB : decide (kids m i = []) = true := decide_eq_true hk
  have hn1 := hok.1.pos
  have hn16 := hok.1.le
  have HOK := Lib.hid hok
  have HM := Lib.hid hm
  have HWELL : Hid (∀ W, Below w.heap.size w W → Calls Tryd.prog 29 #[.slice A m.length c, I i] W fun e w' => e = .returned (.bool true) ∧ Below W.heap.size W w') := Lib.hid fun W hW => by
    have := well29 A c i m W ((hm.below hW).more hW.size) (by omega)
    rwa [show decide (kids m i = []) = true from HKB] at this
  have HTOLD : Hid (∀ W, Below w.heap.size w W → Calls Tryd.prog 70 #[.slice B l.length cb, I i] W fun e w' => e = .returned (.agg #[I (toldW l i).1, I (toldW l i).2]) ∧ Below W.heap.size W w') := Lib.hid fun W hW => told70 B cb i l W ((hl.below hW).more hW.size) (by have := hok.2.1; omega)
  have HL := Lib.hid hl
  have HK := Lib.hid hk
  clear hm hl hok hk
  obtain ⟨i0, hi0, hi1, hi2, hi3⟩ := info_parts info3b
  have hu : Tryd.prog.underlying 26 = some (.slice 3) := Tryd.underlying26
  have HU := Lib.hid hu; have HI0 := Lib.hid hi0; have HI1 := Lib.hid hi1; have HI2 := Lib.hid hi2; have HI3 := Lib.hid hi3
  clear hu hi0 hi1 hi2 hi3
  go_enter Tryd.func51, Tryd.ntmps51
  go_wp2_with (first
    | (at_make; refine wpList_make_full _ rfl _ _ 26 rfl w.heap.size 3 i0 (I 0) 1 HU.out HI0.out HI1.out HI2.out .i64 .i64 1601 1601 1601 rfl rfl rfl rfl (by rw [HI3.out]; omega) (by unfold maxLen; omega) (Nat.le_refl _) ?_; intro w1 hown hg; have HS1 := Lib.hid (box_madeL hown); have hB1 : Below w.heap.size w w1 := grown_below hg (Nat.le_refl _) (by simp); clear hown hg)
    | fail)
  obtain ⟨S, hS⟩ : ∃ S, S = w.heap.size := ⟨_, rfl⟩
  rw [← hS] at HS1 ⊢
  have hSw : w.heap.size ≤ S := by omega
  clear hS
  go_loopw [8] (fun s8 wr => ∃ (k : Nat) (xl : List Int), k ≤ 1601 ∧ s8 = I k ∧ Below w.heap.size w wr ∧ Hid (Box wr S (xl.map I)) ∧ xl.length = 1601 ∧ Hid (∀ j, j < k → xF xl j = if j = 0 then 0 else 1073741824)) (fun s _ => 1601 - (intOf s).toNat)
  case atStart =>
    obtain ⟨xl, h1, h2⟩ := HS1.out
    exact ⟨0, xl, by omega, rfl, hB1, Lib.hid h1, h2, Lib.hid fun j h => by omega⟩
  case round =>
    clear HS1 hB1
    obtain ⟨k, xl, hk, rfl, hB, HX, hxl, HP⟩ := hrel
    have hwz := hB.size
    have hSz := HX.out.1
    by_cases hlt : k ≤ 1600
    · obtain ⟨x0, f0⟩ := HX.out.at_ k (I (xF xl k)) (by simp [xF, List.getD, show k < xl.length by omega])
      have p0 : (0 : Int) ≤ (k : Int) := by omega
      have p1 : (k : Int) < (1601 : Int) := by omega
      have hlb : decide ((k : Int) ≤ 1600) = true := decide_eq_true (by omega)
      have HX2 : Hid (Box (wr.setCell ⟨S, k, none⟩ (I 1073741824)) S ((xl.set k 1073741824).map I)) := Lib.hid (box_setI HX.out k _)
      have hB2 : Below w.heap.size w (wr.setCell ⟨S, k, none⟩ (I 1073741824)) := hB.setCell hSw _
      have hx2 : (xl.set k 1073741824).length = 1601 := by simpa using hxl
      by_cases h0 : k = 0
      · subst h0
        have HX3 : Hid (Box ((wr.setCell ⟨S, 0, none⟩ (I 1073741824)).setCell ⟨S, 0, none⟩ (I 0)) S (((xl.set 0 1073741824).set 0 0).map I)) := Lib.hid (box_setI HX2.out 0 _)
        have hB3 : Below w.heap.size w ((wr.setCell ⟨S, 0, none⟩ (I 1073741824)).setCell ⟨S, 0, none⟩ (I 0)) := hB2.setCell hSw _
        have HP3 : Hid (∀ j, j < 0 + 1 → xF ((xl.set 0 1073741824).set 0 0) j = if j = 0 then 0 else 1073741824) := Lib.hid fun j hj => by
          obtain rfl : j = 0 := by omega
          rw [xF_set (by omega), if_pos rfl, if_pos rfl]
        clear HX2 hB2 hx2
        go_wp2
        go_roundw
        case rel => first | exact ⟨0 + 1, _, by omega, by go_num, hB3, HX3, by simpa using hxl, HP3⟩ | ((repeat apply Exists.intro); refine ⟨?_, rfl⟩; exact ⟨0 + 1, _, by omega, by go_num, hB3, HX3, by simpa using hxl, HP3⟩)
        case measure => first | (simp [intOf]; done) | (simp [intOf]; omega)
      · have HP3 : Hid (∀ j, j < k + 1 → xF (xl.set k 1073741824) j = if j = 0 then 0 else 1073741824) := Lib.hid fun j hj => by
          rw [xF_set (by omega)]
          by_cases e : j = k
          · rw [if_pos e, if_neg (by omega)]
          · rw [if_neg e]; exact HP.out j (by omega)
        have g0 : ((k : Int) == 0) = false := by simpa using h0
        have g0' : (k == 0) = false := by simpa using h0
        clear h0
        go_wp2
        go_roundw
        case rel => first | exact ⟨k + 1, _, by omega, by go_num, hB2, HX2, hx2, HP3⟩ | ((repeat apply Exists.intro); refine ⟨?_, rfl⟩; exact ⟨k + 1, _, by omega, by go_num, hB2, HX2, hx2, HP3⟩)
        case measure => first | (simp [intOf]; done) | (simp [intOf]; omega)
    · obtain rfl : 1601 = k := by omega
      have hlb : decide ((1601 : Int) ≤ 1600) = false := rfl
      clear hlt hk
      have hlm := HOK.out.1.lim i hi
      go_wp2_with (first
        | (go_at_call 29; refine (HWELL.out _ hB).mono ?_; rintro e w2 ⟨rfl, hB2⟩; have hBw2 := hB.trans (hB2.mono hB.size); have HX2 := Lib.hid (HX.out.call hB2); clear HX)
        | fail)
      go_loopw [9] (fun s9 wr => ∃ (k : Nat) (xl : List Int), k ≤ 101 ∧ s9 = I k ∧ Below w.heap.size w wr ∧ Hid (Box wr S (xl.map I)) ∧ xl.length = 1601 ∧ Hid (∀ j, j < k → xF xl j = max 0 ((j : Int) - limW m i)) ∧ Hid (∀ j, k ≤ j → 0 < j → j ≤ 1600 → xF xl j = neverW)) (fun s _ => 101 - (intOf s).toNat)
      case atStart => exact ⟨0, xl, by omega, rfl, hBw2, HX2, hxl, Lib.hid fun j h => by omega, Lib.hid fun j _ h1 h2 => by rw [HP.out j (by omega), if_neg (by omega)]; rfl⟩
      case round =>
        clear HX2 hBw2 hB hB2 HP hxl
        obtain ⟨k, xl, hk, rfl, hB, HX, hxl, HP, HR⟩ := hrel
        have hwz := hB.size
        have hSz := HX.out.1
        by_cases hlt : k ≤ 100
        · obtain ⟨x0, f0⟩ := HX.out.at_ k (I (xF xl k)) (by simp [xF, List.getD, show k < xl.length by omega])
          obtain ⟨ab, ao, hAe, haz, hac⟩ := HM.out.below hB (by omega)
          subst hAe
          have a1 := (hac i hi).2
          have hme : m[i].2 = limW m i := by simp [limW, List.getD, hi]
          rw [hme] at a1
          have p0 : (0 : Int) ≤ (k : Int) := by omega
          have p1 : (k : Int) < (1601 : Int) := by omega
          have p2 : (0 : Int) ≤ (i : Int) := by omega
          have p3 : (i : Int) < (m.length : Int) := by omega
          have hlb : decide ((k : Int) ≤ 100) = true := decide_eq_true (by omega)
          obtain ⟨lm, hlme⟩ : ∃ lm, lm = limW m i := ⟨_, rfl⟩
          rw [← hlme] at a1 HP hlm
          have HLM := Lib.hid hlme
          have gw : IntKind.i64.wrap ((k : Int) - lm) = (k : Int) - lm := IntWalk.i64_in _ (by omega)
          have HX2 : Hid (Box (wr.setCell ⟨S, k, none⟩ (I (max 0 ((k : Int) - lm)))) S ((xl.set k (max 0 ((k : Int) - lm))).map I)) := Lib.hid (box_setI HX.out k _)
          have hB2 : Below w.heap.size w (wr.setCell ⟨S, k, none⟩ (I (max 0 ((k : Int) - lm)))) := hB.setCell hSw _
          have HP2 : Hid (∀ j, j < k + 1 → xF (xl.set k (max 0 ((k : Int) - lm))) j = max 0 ((j : Int) - limW m i)) := Lib.hid fun j hj => by
            rw [xF_set (by omega), ← HLM.out]
            by_cases e : j = k
            · subst e; rw [if_pos rfl]
            · rw [if_neg e]; exact HP.out j (by omega)
          have HR2 : Hid (∀ j, k + 1 ≤ j → 0 < j → j ≤ 1600 → xF (xl.set k (max 0 ((k : Int) - lm))) j = neverW) := Lib.hid fun j h1 h2 h3 => by
            rw [xF_set (by omega), if_neg (by omega)]
            exact HR.out j (by omega) h2 h3
          clear hac hme hlme
          go_wp2
          go_roundw
          case rel => first | exact ⟨k + 1, _, by omega, by go_num, hB2, HX2, by simpa using hxl, HP2, HR2⟩ | ((repeat apply Exists.intro); refine ⟨?_, rfl⟩; exact ⟨k + 1, _, by omega, by go_num, hB2, HX2, by simpa using hxl, HP2, HR2⟩)
          case measure => first | (simp [intOf]; done) | (simp [intOf]; omega)
        · obtain rfl : 101 = k := by omega
          have hlb : decide ((101 : Int) ≤ 100) = false := rfl
          clear hlt hk
          generalize wr = w3 at *
          go_wp2_with (fail)
          go_loopw [7, 10] (fun s7 s10 wr => ∃ k : Nat, k ≤ m.length ∧ s10 = I k ∧ s7 = .slice (some ⟨S, 0, none⟩) 1601 1601 ∧ wr = w3) (fun _ s _ => m.length - (intOf s).toNat)
          case atStart => exact ⟨0, Nat.zero_le _, rfl, rfl, (by first | trivial | rfl)⟩
          case round =>
            obtain ⟨k, hk, rfl, rfl, rfl⟩ := hrel
            by_cases hlt : k < m.length
            · obtain ⟨ab, ao, hAe, haz, hac⟩ := HM.out.below hB (by omega)
              subst hAe
              have a1 := (hac k hlt).1
              have hme : m[k].1 = parW m k := by simp [parW, List.getD, hlt]
              rw [hme] at a1
              have hne := (well_iff.1 HK.out) k hlt
              generalize parW m k = pk at *
              have p2 : (0 : Int) ≤ (k : Int) := by omega
              have p3 : (k : Int) < (m.length : Int) := by omega
              have g0 : (pk != (i : Int)) = true := by simpa using hne
              clear hac hme hne
              go_wp2
              go_roundw
              case rel => first | exact ⟨k + 1, by omega, by go_num, rfl, (by first | trivial | rfl)⟩ | ((repeat apply Exists.intro); refine ⟨?_, rfl⟩; exact ⟨k + 1, by omega, by go_num, rfl, (by first | trivial | rfl)⟩)
              case measure => first | (simp [intOf]; done) | (simp [intOf]; omega)
            · obtain rfl : m.length = k := by omega
              clear hlt hk
              obtain ⟨Sx, hSxe⟩ : ∃ Sx, Sx = S := ⟨_, rfl⟩
              have hSx : w.heap.size ≤ Sx := by omega
              subst hSxe
              obtain ⟨f, hf⟩ : ∃ f : Nat → Int, f = xF xl := ⟨_, rfl⟩
              have HF : Hid (∀ j, j ≤ 1600 → xF xl j = f j) := Lib.hid fun j _ => by rw [hf]
              have HFW : Hid (∀ n, n ≤ 1600 → f n = if n ≤ 100 then max 0 ((n : Int) - limW m i) else neverW) := Lib.hid fun n hn => by
                rw [hf]
                split
                · exact HP.out n (by omega)
                · exact HR.out n (by omega) (by omega) hn
              have HFB : Hid (∀ j, j ≤ 1600 → 0 ≤ f j ∧ f j ≤ neverW) := Lib.hid fun j hj => by
                rw [HFW.out j hj]
                unfold neverW
                split <;> omega
              have HBEST : Hid (∀ h : Nat → Int, (∀ n : Nat, n ≤ 1600 → h n = if (n : Int) < (toldW l i).1 ∨ (toldW l i).2 < (n : Int) then neverW else f n) → BestW (Att m l i) h) := Lib.hid fun h hh => BestW.leaf HOK.out.1 hi HK.out HFW.out hh
              clear hf HP HR HFW
              have hBl := hB
              have hSxl := hSx
              have HXL := HX
              have hxll := hxl
              generalize wr = wl at *
              go_wp2_with (first
                | (go_at_call 70; refine (HTOLD.out _ hBl).mono ?_; rintro e wt ⟨rfl, hBt⟩; have hBwt := hBl.trans (hBt.mono hBl.size); have HXT := Lib.hid (HXL.out.call hBt); clear HXL)
                | fail)
              obtain ⟨T, hT⟩ : ∃ T, T = wt.heap.size := ⟨_, rfl⟩
              obtain ⟨lo, hlo⟩ : ∃ a, a = (toldW l i).1 := ⟨_, rfl⟩
              obtain ⟨hi, hhi⟩ : ∃ a, a = (toldW l i).2 := ⟨_, rfl⟩
              rw [← hlo, ← hhi]
              have HLO := Lib.hid hlo
              have HHI := Lib.hid hhi
              have HTB0 : Hid (Box (wt.alloc (.cells #[I lo, I hi] 39)) T [I lo, I hi]) := Lib.hid (by rw [hT]; exact Box.new wt [I lo, I hi] 39)
              have HXT1 := Lib.hid (HXT.out.alloc (.cells #[I lo, I hi] 39))
              have hBT1 : Below w.heap.size w (wt.alloc (.cells #[I lo, I hi] 39)) := hBwt.alloc hBwt.size _
              have hSxT : Sx ≠ T := by have := HXT.out.1; omega
              have hTw : w.heap.size ≤ T := by have := hBwt.size; omega
              rw [← hT]
              clear hT hlo hhi HXT
              generalize wt.alloc (.cells #[I lo, I hi] 39) = wu at *
              go_loopw [16] (fun s16 wr => ∃ (k : Nat) (xl : List Int), k ≤ 1601 ∧ s16 = I k ∧ Below w.heap.size w wr ∧ Hid (Box wr Sx (xl.map I)) ∧ Hid (Box wr T [I lo, I hi]) ∧ xl.length = 1601 ∧ Hid (∀ j, j < k → xF xl j = if (j : Int) < lo ∨ hi < (j : Int) then neverW else f j) ∧ Hid (∀ j, k ≤ j → j ≤ 1600 → xF xl j = f j)) (fun s _ => 1601 - (intOf s).toNat)
              case atStart => exact ⟨0, _, by omega, rfl, hBT1, HXT1, HTB0, hxll, Lib.hid fun j h => by omega, Lib.hid fun j _ h => HF.out j h⟩
              case round =>
                clear HTB0 HXT1 hBT1 hBl HF hxll hB hxl
                obtain ⟨k, xl, hk, rfl, hB, HX, HTB, hxl, HP, HR⟩ := hrel
                have hwz := hB.size
                have hSz := HX.out.1
                have hTz := HTB.out.1
                obtain ⟨y0, _⟩ := HTB.out.at_ 0 _ rfl
                obtain ⟨y1, _⟩ := HTB.out.at_ 1 _ rfl
                by_cases hlt : k ≤ 1600
                · have hrk := HR.out k (Nat.le_refl _) hlt
                  obtain ⟨x0, f0⟩ := HX.out.at_ k (I (xF xl k)) (by simp [xF, List.getD, show k < xl.length by omega])
                  rw [hrk] at x0
                  have hfb := HFB.out k hlt
                  have p0 : (0 : Int) ≤ (k : Int) := by omega
                  have p1 : (k : Int) < (1601 : Int) := by omega
                  have hlb : decide ((k : Int) ≤ 1600) = true := decide_eq_true (by omega)
                  have HST : Hid (∀ v, (v = if (k : Int) < lo ∨ hi < (k : Int) then neverW else f k) → (∀ j, j < k + 1 → xF (xl.set k v) j = if (j : Int) < lo ∨ hi < (j : Int) then neverW else f j) ∧ (∀ j, k + 1 ≤ j → j ≤ 1600 → xF (xl.set k v) j = f j)) := Lib.hid fun v hv => by
                    refine ⟨fun j hj => ?_, fun j h1 h2 => ?_⟩
                    · rw [xF_set (by omega)]
                      by_cases e : j = k
                      · subst e; rw [if_pos rfl]; exact hv
                      · rw [if_neg e]; exact HP.out j (by omega)
                    · rw [xF_set (by omega), if_neg (by omega)]
                      exact HR.out j (by omega) h2
                  have HCUT : Hid (∀ W, Box W Sx ((xl.set k 1073741824).map I) → Box (W.setCell ⟨Sx, k, none⟩ (I 1073741824)) Sx ((xl.set k 1073741824).map I)) := Lib.hid fun W h => by
                    have := box_setI h k 1073741824
                    rwa [List.set_set] at this
                  have HX2 : Hid (Box (wr.setCell ⟨Sx, k, none⟩ (I 1073741824)) Sx ((xl.set k 1073741824).map I)) := Lib.hid (box_setI HX.out k _)
                  have HX3 : Hid (Box (wr.setCell ⟨Sx, k, none⟩ (I (f k))) Sx ((xl.set k (f k)).map I)) := Lib.hid (box_setI HX.out k _)
                  have hgm : min (f k) 1073741824 = f k := by have := hfb; unfold neverW at this; omega
                  generalize f k = fk at *
                  clear hrk hfb
                  by_cases hc1 : (k : Int) < lo
                  · have HV := Lib.hid (HST.out 1073741824 (by rw [if_pos (.inl hc1)]; rfl))
                    have d1 : decide ((k : Int) < lo) = true := decide_eq_true hc1
                    have HX5 := Lib.hid (HCUT.out _ HX2.out)
                    have HTB5 := Lib.hid ((HTB.out.far (p := ⟨Sx, k, none⟩) hSxT (I 1073741824)).far (p := ⟨Sx, k, none⟩) hSxT (I 1073741824))
                    have hB5 : Below w.heap.size w ((wr.setCell ⟨Sx, k, none⟩ (I 1073741824)).setCell ⟨Sx, k, none⟩ (I 1073741824)) := (hB.setCell hSxl _).setCell hSxl _
                    clear hc1 HST HCUT HX2 HX3 hgm
                    go_wp2
                    go_roundw
                    case rel => first | exact ⟨k + 1, _, by omega, by go_num, hB5, HX5, HTB5, by simpa using hxl, Lib.hid HV.out.1, Lib.hid HV.out.2⟩ | ((repeat apply Exists.intro); refine ⟨?_, rfl⟩; exact ⟨k + 1, _, by omega, by go_num, hB5, HX5, HTB5, by simpa using hxl, Lib.hid HV.out.1, Lib.hid HV.out.2⟩)
                    case measure => first | (simp [intOf]; done) | (simp [intOf]; omega)
                  · have d1 : decide ((k : Int) < lo) = false := decide_eq_false hc1
                    by_cases hc2 : hi < (k : Int)
                    · have HV := Lib.hid (HST.out 1073741824 (by rw [if_pos (.inr hc2)]; rfl))
                      have d2 : decide (hi < (k : Int)) = true := decide_eq_true hc2
                      have HX5 := Lib.hid (HCUT.out _ HX2.out)
                      have HTB5 := Lib.hid ((HTB.out.far (p := ⟨Sx, k, none⟩) hSxT (I 1073741824)).far (p := ⟨Sx, k, none⟩) hSxT (I 1073741824))
                      have hB5 : Below w.heap.size w ((wr.setCell ⟨Sx, k, none⟩ (I 1073741824)).setCell ⟨Sx, k, none⟩ (I 1073741824)) := (hB.setCell hSxl _).setCell hSxl _
                      clear hc1 hc2 HST HCUT HX2 HX3 hgm
                      go_wp2
                      go_roundw
                      case rel => first | exact ⟨k + 1, _, by omega, by go_num, hB5, HX5, HTB5, by simpa using hxl, Lib.hid HV.out.1, Lib.hid HV.out.2⟩ | ((repeat apply Exists.intro); refine ⟨?_, rfl⟩; exact ⟨k + 1, _, by omega, by go_num, hB5, HX5, HTB5, by simpa using hxl, Lib.hid HV.out.1, Lib.hid HV.out.2⟩)
                      case measure => first | (simp [intOf]; done) | (simp [intOf]; omega)
                    · have HV := Lib.hid (HST.out fk (by rw [if_neg (by omega)]))
                      have d2 : decide (hi < (k : Int)) = false := decide_eq_false hc2
                      have HTB5 := Lib.hid (HTB.out.far (p := ⟨Sx, k, none⟩) hSxT (I fk))
                      have hB5 : Below w.heap.size w (wr.setCell ⟨Sx, k, none⟩ (I fk)) := hB.setCell hSxl _
                      clear hc1 hc2 HST HCUT HX2
                      go_wp2
                      go_roundw
                      case rel => first | exact ⟨k + 1, _, by omega, by go_num, hB5, HX3, HTB5, by simpa using hxl, Lib.hid HV.out.1, Lib.hid HV.out.2⟩ | ((repeat apply Exists.intro); refine ⟨?_, rfl⟩; exact ⟨k + 1, _, by omega, by go_num, hB5, HX3, HTB5, by simpa using hxl, Lib.hid HV.out.1, Lib.hid HV.out.2⟩)
                      case measure => first | (simp [intOf]; done) | (simp [intOf]; omega)
                · obtain rfl : 1601 = k := by omega
                  have hlb : decide ((1601 : Int) ≤ 1600) = false := rfl
                  have HPL : Hid (∀ n : Nat, n ≤ 1600 → xF xl n = if (n : Int) < (toldW l i).1 ∨ (toldW l i).2 < (n : Int) then neverW else f n) := Lib.hid fun n hn => by rw [← HLO.out, ← HHI.out]; exact HP.out n (by omega)
                  clear hlt hk HP HR
                  go_wp2
                  go_ret
                  exact ⟨Sx, xl, rfl, hSxl, HX.out, hxl, HBEST.out _ HPL.out, hB⟩
set_option maxRecDepth 100000 in
set_option maxHeartbeats 16000000 in
theorem excess51_node (A B : Option Addr) (c cb : Nat) (m : List (Int × Int)) (l : List (Int × Int × Int)) (hok : InOk m l) (i : Nat) (hi : i < m.length) (hk : kids m i ≠ []) (w : World) (hm : Pairs w w.heap.size A m) (hl : Threes w w.heap.size B l)
    (hrec : ∀ k, i < k → k < m.length → ∀ W, Below w.heap.size w W → Calls Tryd.prog 51 #[.slice A m.length c, .slice B l.length cb, I k] W (Exc51 m l k W)) :
    Calls Tryd.prog 51 #[.slice A m.length c, .slice B l.length cb, I i] w (Exc51 m l i w) := by
  have HKB : decide (kids m i = []) = false := decide_eq_false hk
  have HREC := Lib.hid hrec
  clear hrec
  have hn1 := hok.1.pos
  have hn16 := hok.1.le
  have HOK := Lib.hid hok
  have HM := Lib.hid hm
  have HWELL : Hid (∀ W, Below w.heap.size w W → Calls Tryd.prog 29 #[.slice A m.length c, I i] W fun e w' => e = .returned (.bool false) ∧ Below W.heap.size W w') := Lib.hid fun W hW => by
    have := well29 A c i m W ((hm.below hW).more hW.size) (by omega)
    rwa [show decide (kids m i = []) = false from HKB] at this
  have HTOLD : Hid (∀ W, Below w.heap.size w W → Calls Tryd.prog 70 #[.slice B l.length cb, I i] W fun e w' => e = .returned (.agg #[I (toldW l i).1, I (toldW l i).2]) ∧ Below W.heap.size W w') := Lib.hid fun W hW => told70 B cb i l W ((hl.below hW).more hW.size) (by have := hok.2.1; omega)
  have HL := Lib.hid hl
  have HK := Lib.hid hk
  clear hm hl hok hk
  obtain ⟨i0, hi0, hi1, hi2, hi3⟩ := info_parts info3b
  have hu : Tryd.prog.underlying 26 = some (.slice 3) := Tryd.underlying26
  have HU := Lib.hid hu; have HI0 := Lib.hid hi0; have HI1 := Lib.hid hi1; have HI2 := Lib.hid hi2; have HI3 := Lib.hid hi3
  clear hu hi0 hi1 hi2 hi3
  go_enter Tryd.func51, Tryd.ntmps51
  go_wp2_with (first
    | (at_make; refine wpList_make_full _ rfl _ _ 26 rfl w.heap.size 3 i0 (I 0) 1 HU.out HI0.out HI1.out HI2.out .i64 .i64 1601 1601 1601 rfl rfl rfl rfl (by rw [HI3.out]; omega) (by unfold maxLen; omega) (Nat.le_refl _) ?_; intro w1 hown hg; have HS1 := Lib.hid (box_madeL hown); have hB1 : Below w.heap.size w w1 := grown_below hg (Nat.le_refl _) (by simp); clear hown hg)
    | fail)
  obtain ⟨S, hS⟩ : ∃ S, S = w.heap.size := ⟨_, rfl⟩
  rw [← hS] at HS1 ⊢
  have hSw : w.heap.size ≤ S := by omega
  clear hS
  go_loopw [8] (fun s8 wr => ∃ (k : Nat) (xl : List Int), k ≤ 1601 ∧ s8 = I k ∧ Below w.heap.size w wr ∧ Hid (Box wr S (xl.map I)) ∧ xl.length = 1601 ∧ Hid (∀ j, j < k → xF xl j = if j = 0 then 0 else 1073741824)) (fun s _ => 1601 - (intOf s).toNat)
  case atStart =>
    obtain ⟨xl, h1, h2⟩ := HS1.out
    exact ⟨0, xl, by omega, rfl, hB1, Lib.hid h1, h2, Lib.hid fun j h => by omega⟩
  case round =>
    clear HS1 hB1
    obtain ⟨k, xl, hk, rfl, hB, HX, hxl, HP⟩ := hrel
    have hwz := hB.size
    have hSz := HX.out.1
    by_cases hlt : k ≤ 1600
    · obtain ⟨x0, f0⟩ := HX.out.at_ k (I (xF xl k)) (by simp [xF, List.getD, show k < xl.length by omega])
      have p0 : (0 : Int) ≤ (k : Int) := by omega
      have p1 : (k : Int) < (1601 : Int) := by omega
      have hlb : decide ((k : Int) ≤ 1600) = true := decide_eq_true (by omega)
      have HX2 : Hid (Box (wr.setCell ⟨S, k, none⟩ (I 1073741824)) S ((xl.set k 1073741824).map I)) := Lib.hid (box_setI HX.out k _)
      have hB2 : Below w.heap.size w (wr.setCell ⟨S, k, none⟩ (I 1073741824)) := hB.setCell hSw _
      have hx2 : (xl.set k 1073741824).length = 1601 := by simpa using hxl
      by_cases h0 : k = 0
      · subst h0
        have HX3 : Hid (Box ((wr.setCell ⟨S, 0, none⟩ (I 1073741824)).setCell ⟨S, 0, none⟩ (I 0)) S (((xl.set 0 1073741824).set 0 0).map I)) := Lib.hid (box_setI HX2.out 0 _)
        have hB3 : Below w.heap.size w ((wr.setCell ⟨S, 0, none⟩ (I 1073741824)).setCell ⟨S, 0, none⟩ (I 0)) := hB2.setCell hSw _
        have HP3 : Hid (∀ j, j < 0 + 1 → xF ((xl.set 0 1073741824).set 0 0) j = if j = 0 then 0 else 1073741824) := Lib.hid fun j hj => by
          obtain rfl : j = 0 := by omega
          rw [xF_set (by omega), if_pos rfl, if_pos rfl]
        clear HX2 hB2 hx2
        go_wp2
        go_roundw
        case rel => first | exact ⟨0 + 1, _, by omega, by go_num, hB3, HX3, by simpa using hxl, HP3⟩ | ((repeat apply Exists.intro); refine ⟨?_, rfl⟩; exact ⟨0 + 1, _, by omega, by go_num, hB3, HX3, by simpa using hxl, HP3⟩)
        case measure => first | (simp [intOf]; done) | (simp [intOf]; omega)
      · have HP3 : Hid (∀ j, j < k + 1 → xF (xl.set k 1073741824) j = if j = 0 then 0 else 1073741824) := Lib.hid fun j hj => by
          rw [xF_set (by omega)]
          by_cases e : j = k
          · rw [if_pos e, if_neg (by omega)]
          · rw [if_neg e]; exact HP.out j (by omega)
        have g0 : ((k : Int) == 0) = false := by simpa using h0
        have g0' : (k == 0) = false := by simpa using h0
        clear h0
        go_wp2
        go_roundw
        case rel => first | exact ⟨k + 1, _, by omega, by go_num, hB2, HX2, hx2, HP3⟩ | ((repeat apply Exists.intro); refine ⟨?_, rfl⟩; exact ⟨k + 1, _, by omega, by go_num, hB2, HX2, hx2, HP3⟩)
        case measure => first | (simp [intOf]; done) | (simp [intOf]; omega)
    · obtain rfl : 1601 = k := by omega
      have hlb : decide ((1601 : Int) ≤ 1600) = false := rfl
      clear hlt hk
      go_wp2_with (first
        | (go_at_call 29; refine (HWELL.out _ hB).mono ?_; rintro e w2 ⟨rfl, hB2⟩; have hBw2 := hB.trans (hB2.mono hB.size); have HX2 := Lib.hid (HX.out.call hB2); clear HX)
        | fail)
      have HBN : Hid (BestW (PAtt m l (kidsBe m i 0)) (xF xl)) := Lib.hid (best_congr BestW.nil fun n hn => by rw [HP.out n (by omega)]; rfl)
      go_loopw [7, 10] (fun s7 s10 wr => ∃ (k Sx : Nat) (xl : List Int), k ≤ m.length ∧ s10 = I k ∧ s7 = .slice (some ⟨Sx, 0, none⟩) 1601 1601 ∧ w.heap.size ≤ Sx ∧ Below w.heap.size w wr ∧ Hid (Box wr Sx (xl.map I)) ∧ xl.length = 1601 ∧ Hid (BestW (PAtt m l (kidsBe m i k)) (xF xl))) (fun _ s _ => m.length - (intOf s).toNat)
      case atStart => exact ⟨0, S, xl, Nat.zero_le _, rfl, rfl, hSw, hBw2, HX2, hxl, HBN⟩
      case round =>
        clear HX2 hBw2 hB hB2 HP hxl HBN hSw
        obtain ⟨k, Sx, xl, hk, rfl, rfl, hSx, hB, HX, hxl, HBP⟩ := hrel
        have hwz := hB.size
        by_cases hlt : k < m.length
        · obtain ⟨ab, ao, hAe, haz, hac⟩ := HM.out.below hB (by omega)
          subst hAe
          have a1 := (hac k hlt).1
          have hme : m[k].1 = parW m k := by simp [parW, List.getD, hlt]
          rw [hme] at a1
          have p2 : (0 : Int) ≤ (k : Int) := by omega
          have p3 : (k : Int) < (m.length : Int) := by omega
          by_cases hp : parW m k = (i : Int)
          · have HKT : Hid (kidsBe m i (k + 1) = kidsBe m i k ++ [k]) := Lib.hid (kidsBe_succ m i k |>.trans (if_pos hp))
            have HIK : Hid (i < k) := Lib.hid (kids_gt HOK.out.1 (mem_kids.2 ⟨hlt, hp⟩))
            have g0 : (parW m k != (i : Int)) = false := by simpa using hp
            have hSz := HX.out.1
            generalize parW m k = pk at *
            clear hac hme hp
            go_wp2_with (first
              | (go_at_call 51; refine (HREC.out k HIK.out hlt _ hB).mono ?_; rintro e w3 ⟨Sm, xm, rfl, hSm, hbm, hxm, hbe, hB3⟩; have HXM := Lib.hid hbm; have HBE := Lib.hid hbe; have HX3 := Lib.hid (HX.out.call hB3); have hBw3 := hB.trans (hB3.mono hwz); have hz3 := hB3.size; clear HX hbm hbe)
              | (at_make; refine wpList_make_full _ rfl _ _ 26 rfl w3.heap.size 3 i0 (I 0) 1 HU.out HI0.out HI1.out HI2.out .i64 .i64 1601 1601 1601 rfl rfl rfl rfl (by rw [HI3.out]; omega) (by unfold maxLen; omega) (Nat.le_refl _) ?_; intro w4 hown hg; have HS4 := Lib.hid (box_madeL hown); have hB4 : Below w3.heap.size w3 w4 := grown_below hg (Nat.le_refl _) (by simp); clear hown hg)
              | fail)
            obtain ⟨Sn, hSn⟩ : ∃ Sn, Sn = w3.heap.size := ⟨_, rfl⟩
            rw [← hSn] at HS4 ⊢
            have hSn3 : w3.heap.size ≤ Sn := by omega
            have hSx3 : Sx < w3.heap.size := by omega
            have hSm3 : Sm < w3.heap.size := HXM.out.1
            clear hSn
            obtain ⟨f, hf⟩ : ∃ f : Nat → Int, f = xF xl := ⟨_, rfl⟩
            obtain ⟨g, hg⟩ : ∃ g : Nat → Int, g = xF xm := ⟨_, rfl⟩
            have HCL : Hid (∀ W, Below w3.heap.size w3 W → (∀ j, j ≤ 1600 → W.cell? ⟨Sx, j, none⟩ = some (I (f j))) ∧ (∀ j, j ≤ 1600 → W.cell? ⟨Sm, j, none⟩ = some (I (g j)))) := Lib.hid fun W hW =>
              ⟨fun j hj => by rw [hf]; exact ((HX3.out.call hW).at_ j (I (xF xl j)) (by simp [xF, List.getD, show j < xl.length by omega])).1, fun j hj => by rw [hg]; exact ((HXM.out.call hW).at_ j (I (xF xm j)) (by simp [xF, List.getD, show j < xm.length by omega])).1⟩
            have HFF := Lib.hid hf
            have HGG := Lib.hid hg
            have HFB : Hid (∀ j, j ≤ 1600 → 0 ≤ f j ∧ f j ≤ neverW) := Lib.hid (by rw [hf]; exact HBP.out.bd)
            have HGB : Hid (∀ j, j ≤ 1600 → 0 ≤ g j ∧ g j ≤ neverW) := Lib.hid (by rw [hg]; exact HBE.out.bd)
            clear hf hg HX3 HXM
            go_loopw [13] (fun s13 wr => ∃ (n : Nat) (xn : List Int), n ≤ 1601 ∧ s13 = I n ∧ Below w3.heap.size w3 wr ∧ Hid (Box wr Sn (xn.map I)) ∧ xn.length = 1601 ∧ Hid (∀ j, j < n → xF xn j = convW f g j (j + 1))) (fun s _ => 1601 - (intOf s).toNat)
            case atStart =>
              obtain ⟨xn, h1, h2⟩ := HS4.out
              exact ⟨0, xn, by omega, rfl, hB4, Lib.hid h1, h2, Lib.hid fun j h => by omega⟩
            case round =>
              clear HS4 hB4 hB
              obtain ⟨n, xn, hn, rfl, hB5, HXN, hxn, HPN⟩ := hrel
              have hz5 := hB5.size
              by_cases hln : n ≤ 1600
              · obtain ⟨x0, f0⟩ := HXN.out.at_ n (I (xF xn n)) (by simp [xF, List.getD, show n < xn.length by omega])
                have q0 : (0 : Int) ≤ (n : Int) := by omega
                have q1 : (n : Int) < (1601 : Int) := by omega
                have hlb : decide ((n : Int) ≤ 1600) = true := decide_eq_true (by omega)
                have HXN2 : Hid (Box (wr.setCell ⟨Sn, n, none⟩ (I 1073741824)) Sn ((xn.set n (convW f g n 0)).map I)) := Lib.hid (box_setI HXN.out n _)
                have hB6 : Below w3.heap.size w3 (wr.setCell ⟨Sn, n, none⟩ (I 1073741824)) := hB5.setCell hSn3 _
                have HCB : Hid (∀ x, x ≤ n + 1 → 0 ≤ convW f g n x ∧ convW f g n x ≤ neverW) := Lib.hid (convW_bd HFB.out HGB.out hln)
                clear HXN
                go_wp2_with (fail)
                generalize wr.setCell ⟨Sn, n, none⟩ (I 1073741824) = w6 at *
                go_loopw [14] (fun s14 wr => ∃ x : Nat, x ≤ n + 1 ∧ s14 = I x ∧ Below w3.heap.size w3 wr ∧ Hid (Box wr Sn ((xn.set n (convW f g n x)).map I))) (fun s _ => n + 1 - (intOf s).toNat)
                case atStart => exact ⟨0, by omega, rfl, hB6, HXN2⟩
                case round =>
                  clear HXN2 hB6 hB5 x0 f0
                  obtain ⟨x, hx, rfl, hB7, HXN⟩ := hrel
                  by_cases hlx : x ≤ n
                  · have hlb2 : decide ((x : Int) ≤ (n : Int)) = true := decide_eq_true (by omega)
                    have hlb2' : decide (x ≤ n) = true := decide_eq_true hlx
                    obtain ⟨x0, f0⟩ := HXN.out.at_ n (I (convW f g n x)) (by simp [show n < xn.length by omega])
                    obtain ⟨k1, k2⟩ := HCL.out _ hB7
                    have e1 := k1 (n - x) (by omega)
                    have e2 := k2 x (by omega)
                    have b1 := HFB.out (n - x) (by omega)
                    have b2 := HGB.out x (by omega)
                    have b3 := HCB.out x (by omega)
                    unfold neverW at b1 b2 b3
                    have hnx : ((n : Int) - (x : Int)) = ((n - x : Nat) : Int) := by omega
                    obtain ⟨y, hy⟩ : ∃ y, n - x = y := ⟨_, rfl⟩
                    have HCV : Hid (convW f g n (x + 1) = min (convW f g n x) (f y + g x)) := Lib.hid (by rw [← hy]; rfl)
                    have HXN8 : Hid (∀ W : World, Box W Sn ((xn.set n (convW f g n x)).map I) → Box (W.setCell ⟨Sn, n, none⟩ (I (min (convW f g n x) (f y + g x)))) Sn ((xn.set n (convW f g n (x + 1))).map I)) := Lib.hid fun W h => by
                      have := box_setI h n (min (convW f g n x) (f y + g x))
                      rw [HCV.out]
                      rwa [List.set_set] at this
                    rw [hy] at e1 b1 hnx
                    have hgw : IntKind.i64.wrap ((n : Int) - (x : Int)) = (y : Int) := by rw [hnx]; exact IntWalk.i64_in _ (by omega)
                    have hgs : IntKind.i64.wrap (f y + g x) = f y + g x := IntWalk.i64_in _ (by omega)
                    have q2 : (0 : Int) ≤ (x : Int) := by omega
                    have q3 : (x : Int) < (1601 : Int) := by omega
                    have q4 : (0 : Int) ≤ (y : Int) := by omega
                    have q5 : (y : Int) < (1601 : Int) := by omega
                    have HB7 := Lib.hid hB7
                    generalize convW f g n x = cv at *
                    generalize f y = fy at *
                    generalize g x = gx at *
                    have HBC : Hid (Box wr Sn ((xn.set n cv).map I)) := HXN
                    clear k1 k2 hnx hy b1 b2 b3 HXN hB7
                    go_wp2_with (fail)
                    refine (wpIn_wide (n := 9)).1 ?_
                    refine wpIn_region_plan (Plan.ons [0, 1, 2, 3, 4, 5, 6, 7, 8, 9, 10, 11, 12, 13, 14, 15, 16, 17, 18, 19] .fin) [] (fun _ => True) [] rfl (by kernel_rfl) (by kernel_rfl) (fun _ d _ _ _ h => by cases d <;> exact h) trivial ?_
                    iterate 19 (refine ordQ_li rfl rfl rfl (fun K hK => ?_); go_simp; refine hK _ ?_; clear hK K)
                    refine ordQ_hv rfl rfl rfl (fun K hK => ?_)
                    gi_wp2
                    refine hK _ _ (fun _ => trivial) ?_
                    clear hK K
                    refine ordQ_fin ?_
                    have hB8 : Below w3.heap.size w3 (wr.drew.setCell ⟨Sn, n, none⟩ (I (min cv (fy + gx)))) := (HB7.out.drew).setCell hSn3 _
                    have HXN9 := Lib.hid (HXN8.out _ HBC.out.drew)
                    go_wp2
                    go_roundw
                    case rel => first | exact ⟨x + 1, by omega, by go_num, hB8, HXN9⟩ | ((repeat apply Exists.intro); refine ⟨?_, rfl⟩; exact ⟨x + 1, by omega, by go_num, hB8, HXN9⟩)
                    case measure => first | (simp [intOf]; done) | (simp [intOf]; omega)
                  · obtain rfl : x = n + 1 := by omega
                    have hlb2 : decide (((n + 1 : Nat) : Int) ≤ (n : Int)) = false := decide_eq_false (by omega)
                    have hlb2' : decide (n + 1 ≤ n) = false := decide_eq_false (by omega)
                    have HPN2 : Hid (∀ j, j < n + 1 → xF (xn.set n (convW f g n (n + 1))) j = convW f g j (j + 1)) := Lib.hid fun j hj => by
                      rw [xF_set (by omega)]
                      by_cases e : j = n
                      · subst e; rw [if_pos rfl]
                      · rw [if_neg e]; exact HPN.out j (by omega)
                    clear hlx hx
                    go_wp2
                    go_roundw
                    case rel => first | exact ⟨n + 1, _, by omega, by go_num, hB7, HXN, by simpa using hxn, HPN2⟩ | ((repeat apply Exists.intro); refine ⟨?_, rfl⟩; exact ⟨n + 1, _, by omega, by go_num, hB7, HXN, by simpa using hxn, HPN2⟩)
                    case measure => first | (simp [intOf]; done) | (simp [intOf]; omega)
              · obtain rfl : 1601 = n := by omega
                have hlb : decide ((1601 : Int) ≤ 1600) = false := rfl
                have HBN : Hid (BestW (PAtt m l (kidsBe m i (k + 1))) (xF xn)) := Lib.hid (by
                  have h1 := HBP.out
                  have h2 := HBE.out
                  rw [← HFF.out] at h1
                  rw [← HGG.out] at h2
                  rw [HKT.out]
                  exact BestW.conv HOK.out.1 (kidsBe_not m i k) h1 h2 fun n hn => HPN.out n (by omega))
                have hBw9 : Below w.heap.size w wr := hBw3.trans (hB5.mono hBw3.size)
                clear hln hn
                go_wp2
                go_roundw
                case rel => first | exact ⟨k + 1, Sn, xn, by omega, by go_num, rfl, by omega, hBw9, HXN, hxn, HBN⟩ | ((repeat apply Exists.intro); refine ⟨?_, rfl⟩; exact ⟨k + 1, Sn, xn, by omega, by go_num, rfl, by omega, hBw9, HXN, hxn, HBN⟩)
                case measure => first | (simp [intOf]; done) | (simp [intOf]; omega)
          · have HKT : Hid (kidsBe m i (k + 1) = kidsBe m i k) := Lib.hid (kidsBe_succ m i k |>.trans (if_neg hp))
            have g0 : (parW m k != (i : Int)) = true := by simpa using hp
            generalize parW m k = pk at *
            clear hac hme hp
            go_wp2
            go_roundw
            case rel => first | exact ⟨k + 1, Sx, xl, by omega, by go_num, rfl, hSx, hB, HX, hxl, Lib.hid (by rw [HKT.out]; exact HBP.out)⟩ | ((repeat apply Exists.intro); refine ⟨?_, rfl⟩; exact ⟨k + 1, Sx, xl, by omega, by go_num, rfl, hSx, hB, HX, hxl, Lib.hid (by rw [HKT.out]; exact HBP.out)⟩)
            case measure => first | (simp [intOf]; done) | (simp [intOf]; omega)
        · obtain rfl : m.length = k := by omega
          clear hlt hk
          obtain ⟨f, hf⟩ : ∃ f : Nat → Int, f = xF xl := ⟨_, rfl⟩
          have HF : Hid (∀ j, j ≤ 1600 → xF xl j = f j) := Lib.hid fun j _ => by rw [hf]
          have HFB : Hid (∀ j, j ≤ 1600 → 0 ≤ f j ∧ f j ≤ neverW) := Lib.hid (by rw [hf]; exact HBP.out.bd)
          have HBEST : Hid (∀ h : Nat → Int, (∀ n : Nat, n ≤ 1600 → h n = if (n : Int) < (toldW l i).1 ∨ (toldW l i).2 < (n : Int) then neverW else f n) → BestW (Att m l i) h) := Lib.hid fun h hh => BestW.node HOK.out.1 hi HK.out (by have := HBP.out; rw [← hf, kidsBe_all] at this; exact this) hh
          clear hf HBP
          have hBl := hB
          have hSxl := hSx
          have HXL := HX
          have hxll := hxl
          generalize wr = wl at *
          go_wp2_with (first
            | (go_at_call 70; refine (HTOLD.out _ hBl).mono ?_; rintro e wt ⟨rfl, hBt⟩; have hBwt := hBl.trans (hBt.mono hBl.size); have HXT := Lib.hid (HXL.out.call hBt); clear HXL)
            | fail)
          obtain ⟨T, hT⟩ : ∃ T, T = wt.heap.size := ⟨_, rfl⟩
          obtain ⟨lo, hlo⟩ : ∃ a, a = (toldW l i).1 := ⟨_, rfl⟩
          obtain ⟨hi, hhi⟩ : ∃ a, a = (toldW l i).2 := ⟨_, rfl⟩
          rw [← hlo, ← hhi]
          have HLO := Lib.hid hlo
          have HHI := Lib.hid hhi
          have HTB0 : Hid (Box (wt.alloc (.cells #[I lo, I hi] 39)) T [I lo, I hi]) := Lib.hid (by rw [hT]; exact Box.new wt [I lo, I hi] 39)
          have HXT1 := Lib.hid (HXT.out.alloc (.cells #[I lo, I hi] 39))
          have hBT1 : Below w.heap.size w (wt.alloc (.cells #[I lo, I hi] 39)) := hBwt.alloc hBwt.size _
          have hSxT : Sx ≠ T := by have := HXT.out.1; omega
          have hTw : w.heap.size ≤ T := by have := hBwt.size; omega
          rw [← hT]
          clear hT hlo hhi HXT
          generalize wt.alloc (.cells #[I lo, I hi] 39) = wu at *
          go_loopw [16] (fun s16 wr => ∃ (k : Nat) (xl : List Int), k ≤ 1601 ∧ s16 = I k ∧ Below w.heap.size w wr ∧ Hid (Box wr Sx (xl.map I)) ∧ Hid (Box wr T [I lo, I hi]) ∧ xl.length = 1601 ∧ Hid (∀ j, j < k → xF xl j = if (j : Int) < lo ∨ hi < (j : Int) then neverW else f j) ∧ Hid (∀ j, k ≤ j → j ≤ 1600 → xF xl j = f j)) (fun s _ => 1601 - (intOf s).toNat)
          case atStart => exact ⟨0, _, by omega, rfl, hBT1, HXT1, HTB0, hxll, Lib.hid fun j h => by omega, Lib.hid fun j _ h => HF.out j h⟩
          case round =>
            clear HTB0 HXT1 hBT1 hBl HF hxll hB hxl
            obtain ⟨k, xl, hk, rfl, hB, HX, HTB, hxl, HP, HR⟩ := hrel
            have hwz := hB.size
            have hSz := HX.out.1
            have hTz := HTB.out.1
            obtain ⟨y0, _⟩ := HTB.out.at_ 0 _ rfl
            obtain ⟨y1, _⟩ := HTB.out.at_ 1 _ rfl
            by_cases hlt : k ≤ 1600
            · have hrk := HR.out k (Nat.le_refl _) hlt
              obtain ⟨x0, f0⟩ := HX.out.at_ k (I (xF xl k)) (by simp [xF, List.getD, show k < xl.length by omega])
              rw [hrk] at x0
              have hfb := HFB.out k hlt
              have p0 : (0 : Int) ≤ (k : Int) := by omega
              have p1 : (k : Int) < (1601 : Int) := by omega
              have hlb : decide ((k : Int) ≤ 1600) = true := decide_eq_true (by omega)
              have HST : Hid (∀ v, (v = if (k : Int) < lo ∨ hi < (k : Int) then neverW else f k) → (∀ j, j < k + 1 → xF (xl.set k v) j = if (j : Int) < lo ∨ hi < (j : Int) then neverW else f j) ∧ (∀ j, k + 1 ≤ j → j ≤ 1600 → xF (xl.set k v) j = f j)) := Lib.hid fun v hv => by
                refine ⟨fun j hj => ?_, fun j h1 h2 => ?_⟩
                · rw [xF_set (by omega)]
                  by_cases e : j = k
                  · subst e; rw [if_pos rfl]; exact hv
                  · rw [if_neg e]; exact HP.out j (by omega)
                · rw [xF_set (by omega), if_neg (by omega)]
                  exact HR.out j (by omega) h2
              have HCUT : Hid (∀ W, Box W Sx ((xl.set k 1073741824).map I) → Box (W.setCell ⟨Sx, k, none⟩ (I 1073741824)) Sx ((xl.set k 1073741824).map I)) := Lib.hid fun W h => by
                have := box_setI h k 1073741824
                rwa [List.set_set] at this
              have HX2 : Hid (Box (wr.setCell ⟨Sx, k, none⟩ (I 1073741824)) Sx ((xl.set k 1073741824).map I)) := Lib.hid (box_setI HX.out k _)
              have HX3 : Hid (Box (wr.setCell ⟨Sx, k, none⟩ (I (f k))) Sx ((xl.set k (f k)).map I)) := Lib.hid (box_setI HX.out k _)
              have hgm : min (f k) 1073741824 = f k := by have := hfb; unfold neverW at this; omega
              generalize f k = fk at *
              clear hrk hfb
              by_cases hc1 : (k : Int) < lo
              · have HV := Lib.hid (HST.out 1073741824 (by rw [if_pos (.inl hc1)]; rfl))
                have d1 : decide ((k : Int) < lo) = true := decide_eq_true hc1
                have HX5 := Lib.hid (HCUT.out _ HX2.out)
                have HTB5 := Lib.hid ((HTB.out.far (p := ⟨Sx, k, none⟩) hSxT (I 1073741824)).far (p := ⟨Sx, k, none⟩) hSxT (I 1073741824))
                have hB5 : Below w.heap.size w ((wr.setCell ⟨Sx, k, none⟩ (I 1073741824)).setCell ⟨Sx, k, none⟩ (I 1073741824)) := (hB.setCell hSxl _).setCell hSxl _
                clear hc1 HST HCUT HX2 HX3 hgm
                go_wp2
                go_roundw
                case rel => first | exact ⟨k + 1, _, by omega, by go_num, hB5, HX5, HTB5, by simpa using hxl, Lib.hid HV.out.1, Lib.hid HV.out.2⟩ | ((repeat apply Exists.intro); refine ⟨?_, rfl⟩; exact ⟨k + 1, _, by omega, by go_num, hB5, HX5, HTB5, by simpa using hxl, Lib.hid HV.out.1, Lib.hid HV.out.2⟩)
                case measure => first | (simp [intOf]; done) | (simp [intOf]; omega)
              · have d1 : decide ((k : Int) < lo) = false := decide_eq_false hc1
                by_cases hc2 : hi < (k : Int)
                · have HV := Lib.hid (HST.out 1073741824 (by rw [if_pos (.inr hc2)]; rfl))
                  have d2 : decide (hi < (k : Int)) = true := decide_eq_true hc2
                  have HX5 := Lib.hid (HCUT.out _ HX2.out)
                  have HTB5 := Lib.hid ((HTB.out.far (p := ⟨Sx, k, none⟩) hSxT (I 1073741824)).far (p := ⟨Sx, k, none⟩) hSxT (I 1073741824))
                  have hB5 : Below w.heap.size w ((wr.setCell ⟨Sx, k, none⟩ (I 1073741824)).setCell ⟨Sx, k, none⟩ (I 1073741824)) := (hB.setCell hSxl _).setCell hSxl _
                  clear hc1 hc2 HST HCUT HX2 HX3 hgm
                  go_wp2
                  go_roundw
                  case rel => first | exact ⟨k + 1, _, by omega, by go_num, hB5, HX5, HTB5, by simpa using hxl, Lib.hid HV.out.1, Lib.hid HV.out.2⟩ | ((repeat apply Exists.intro); refine ⟨?_, rfl⟩; exact ⟨k + 1, _, by omega, by go_num, hB5, HX5, HTB5, by simpa using hxl, Lib.hid HV.out.1, Lib.hid HV.out.2⟩)
                  case measure => first | (simp [intOf]; done) | (simp [intOf]; omega)
                · have HV := Lib.hid (HST.out fk (by rw [if_neg (by omega)]))
                  have d2 : decide (hi < (k : Int)) = false := decide_eq_false hc2
                  have HTB5 := Lib.hid (HTB.out.far (p := ⟨Sx, k, none⟩) hSxT (I fk))
                  have hB5 : Below w.heap.size w (wr.setCell ⟨Sx, k, none⟩ (I fk)) := hB.setCell hSxl _
                  clear hc1 hc2 HST HCUT HX2
                  go_wp2
                  go_roundw
                  case rel => first | exact ⟨k + 1, _, by omega, by go_num, hB5, HX3, HTB5, by simpa using hxl, Lib.hid HV.out.1, Lib.hid HV.out.2⟩ | ((repeat apply Exists.intro); refine ⟨?_, rfl⟩; exact ⟨k + 1, _, by omega, by go_num, hB5, HX3, HTB5, by simpa using hxl, Lib.hid HV.out.1, Lib.hid HV.out.2⟩)
                  case measure => first | (simp [intOf]; done) | (simp [intOf]; omega)
            · obtain rfl : 1601 = k := by omega
              have hlb : decide ((1601 : Int) ≤ 1600) = false := rfl
              have HPL : Hid (∀ n : Nat, n ≤ 1600 → xF xl n = if (n : Int) < (toldW l i).1 ∨ (toldW l i).2 < (n : Int) then neverW else f n) := Lib.hid fun n hn => by rw [← HLO.out, ← HHI.out]; exact HP.out n (by omega)
              clear hlt hk HP HR
              go_wp2
              go_ret
              exact ⟨Sx, xl, rfl, hSxl, HX.out, hxl, HBEST.out _ HPL.out, hB⟩
theorem excess51 (A B : Option Addr) (c cb : Nat) (m : List (Int × Int)) (l : List (Int × Int × Int)) (hok : InOk m l) : ∀ (g i : Nat), m.length ≤ i + g → i < m.length → ∀ w, Pairs w w.heap.size A m → Threes w w.heap.size B l →
    Calls Tryd.prog 51 #[.slice A m.length c, .slice B l.length cb, I i] w (Exc51 m l i w)
  | 0, i, hg, hi, _, _, _ => by omega
  | g + 1, i, hg, hi, w, hm, hl => by
    by_cases hk : kids m i = []
    · exact excess51_leaf A B c cb m l hok i hi hk w hm hl
    · exact excess51_node A B c cb m l hok i hi hk w hm hl fun k h1 h2 W hW => excess51 A B c cb m l hok g k (by omega) h2 W ((hm.below hW).more hW.size) ((hl.below hW).more hW.size)
/-- What Excess answers. -/
def Exc16 (m : List (Int × Int)) (l : List (Int × Int × Int)) (w : World) (e : Ending) (w' : World) : Prop :=
  Below w.heap.size w w' ∧ ((¬ InOk m l ∧ e = .returned (.tuple #[I 0, I 1])) ∨ (InOk m l ∧ (¬ ∃ x, Feas m l x) ∧ e = .returned (.tuple #[I 0, I 6])) ∨ (InOk m l ∧ ∃ v, IsExcess m l v ∧ e = .returned (.tuple #[I v, I 0])))
set_option maxRecDepth 100000 in
set_option maxHeartbeats 4000000 in
theorem excess16 (A B : Option Addr) (c cb : Nat) (m : List (Int × Int)) (l : List (Int × Int × Int)) (w : World) (hm : Pairs w w.heap.size A m) (hml : m.length ≤ 9223372036854775807) (hl : Threes w w.heap.size B l) (hll : l.length ≤ 9223372036854775807) :
    Calls Tryd.prog 16 #[.slice A m.length c, .slice B l.length cb] w (Exc16 m l w) := by
  have HE := Lib.hid (errors41 A B c cb m l false w hm hml hl hll)
  have HX : Hid (InOk m l → ∀ W, Below w.heap.size w W → Calls Tryd.prog 51 #[.slice A m.length c, .slice B l.length cb, I 0] W (Exc51 m l 0 W)) := Lib.hid fun h W hW =>
    excess51 A B c cb m l h m.length 0 (by omega) (by have := h.1.pos; omega) W ((hm.below hW).more hW.size) ((hl.below hW).more hW.size)
  clear hm hl
  go_enter Tryd.func16, Tryd.ntmps16
  go_wp2_with (first
    | (go_at_call 41; refine HE.out.mono ?_; rintro e w1 ⟨hB1, ⟨h, rfl⟩ | ⟨_, ht, _⟩ | ⟨h, _, h2, rfl⟩ | ⟨h, _, S, sl, rfl, hS, hSp, hsl, hsp⟩⟩ <;> (try cases ht) <;> (try have HNO := Lib.hid h) <;> (try have HN2 := Lib.hid h2) <;> (try have HSS := Lib.hid hsp) <;> (try clear h2) <;> (try clear hSp hsp hS hsl) <;> (try clear h))
    | (go_at_call 51; refine (HX.out HNO.out _ hB1).mono ?_; rintro e w2 ⟨S2, xl, rfl, hS2, hbx, hxl, hbe, hB2⟩; have HBX := Lib.hid hbx; have HBE := Lib.hid hbe; have hBw2 := hB1.trans (hB2.mono hB1.size); clear hbx hbe)
    | fail)
  · go_ret2
    exact ⟨hB1, .inl ⟨HNO.out, rfl⟩⟩
  · go_ret2
    exact ⟨hB1, .inr (.inl ⟨HNO.out, HN2.out, rfl⟩)⟩
  · go_loopw [9, 10] (fun s9 s10 wr => ∃ k : Nat, k ≤ 1601 ∧ s10 = I k ∧ s9 = I (leastTo (xF xl) k) ∧ wr = w2) (fun _ s _ => 1601 - (intOf s).toNat)
    case atStart => exact ⟨0, by omega, rfl, rfl, (by first | trivial | rfl)⟩
    case round =>
      obtain ⟨k, hk, rfl, rfl, rfl⟩ := hrel
      by_cases hlt : k ≤ 1600
      · obtain ⟨x0, _⟩ := HBX.out.at_ k (I (xF xl k)) (by simp [xF, List.getD, show k < xl.length by omega])
        have p0 : (0 : Int) ≤ (k : Int) := by omega
        have p1 : (k : Int) < (1601 : Int) := by omega
        have hlb : decide ((k : Int) ≤ 1600) = true := decide_eq_true (by omega)
        have HN : Hid (leastTo (xF xl) (k + 1) = min (leastTo (xF xl) k) (xF xl k)) := Lib.hid rfl
        generalize leastTo (xF xl) k = a at *
        generalize xF xl k = b at *
        go_wp2
        go_roundw
        case rel => exact ⟨k + 1, by omega, by go_num, by rw [HN.out], (by first | trivial | rfl)⟩
        case measure => first | (simp [intOf]; done) | (simp [intOf]; omega)
      · obtain rfl : 1601 = k := by omega
        have hlb : decide ((1601 : Int) ≤ 1600) = false := rfl
        have HF : Hid (∃ x, Feas m l x) := Lib.hid HSS.out.some
        have HV := Lib.hid (isExcess_best HNO.out.1 HBE.out HF.out)
        generalize leastTo (xF xl) 1601 = v at *
        clear hlt hk
        go_wp2
        go_ret2
        exact ⟨hBw2, .inr (.inr ⟨HNO.out, v, HV.out, rfl⟩)⟩
end Go.Proofs.YtgdilbilhajgaaaDoor
/- WellsProofs: the walk. -/
namespace Go.Proofs.YtgdilbilhajgaaaDoor
set_option linter.unusedVariables false
set_option linter.unusedSimpArgs false
open Go Go.RowKit

/-- A list and an error; a number and an error. -/
def PrV (xs : List Int) (u : Int) (W : World) (e : Ending) (w' : World) : Prop := ∃ A c, e = .returned (.tuple #[.slice A xs.length c, I u]) ∧ Ints w' w'.heap.size A xs ∧ Below W.heap.size W w'
def NuV (v u : Int) (W : World) (e : Ending) (w' : World) : Prop := e = .returned (.tuple #[I v, I u]) ∧ Below W.heap.size W w'
theorem nil_prv {u : Int} {W w' : World} {e : Ending} (h : e = .returned (.tuple #[nilS, I u])) (hB : Below W.heap.size W w') : PrV [] u W e w' := ⟨none, 0, h, fun h => by simp at h, hB⟩
open Classical in
theorem pr_both (m : List (Int × Int)) (l : List (Int × Int × Int)) (main : Int) : ∃ xs u, xs.length ≤ 100 ∧ (∀ W e w', ProofPost m l main W e w' → PrV xs u W e w') ∧ ∀ W e w', Pr14 m l main W e w' → PrV xs u W e w' := by
  by_cases hok : InOk m l
  · cases hin : inB main 0 ((m.length : Int) - 1)
    · refine ⟨[], 2, by simp, ?_, ?_⟩
      · rintro W e w' ⟨hB, ⟨h, _⟩ | ⟨_, _, h⟩ | ⟨_, h, _⟩ | ⟨_, h, _⟩ | ⟨_, h, _⟩⟩
        · exact absurd hok h
        · exact nil_prv h hB
        all_goals (rw [hin] at h; cases h)
      · rintro W e w' ⟨hB, ⟨h, _⟩ | ⟨_, _, h⟩ | ⟨_, h, _⟩ | ⟨_, h, _⟩ | ⟨_, h, _⟩⟩
        · exact absurd hok h
        · exact nil_prv h hB
        all_goals (rw [hin] at h; cases h)
    · by_cases hf : ∃ x, Feas m l x
      · by_cases hs : ∃ p, IsProof m l main.toNat p
        · obtain ⟨p, hp⟩ := hs
          have hsu : SureP m l main.toNat (List.range l.length) := sure_mono hp.lt hp.sure
          have hl : p.length ≤ 100 := by
            have h1 : p.length ≤ l.length := by
              have := List.Nodup.length_le_of_subset (l₁ := p) (l₂ := List.range l.length) (hp.sorted.imp fun h => by omega) (fun k hk => List.mem_range.2 (hp.lt k hk))
              simpa using this
            have := hok.2.1
            omega
          refine ⟨natQ p, 0, by simpa using hl, ?_, ?_⟩
          · rintro W e w' ⟨hB, ⟨h, _⟩ | ⟨_, h, _⟩ | ⟨_, _, h, _⟩ | ⟨_, _, _, h, _⟩ | ⟨_, _, _, v, q, rfl, ho, hq⟩⟩
            · exact absurd hok h
            · rw [hin] at h; cases h
            · exact absurd hf h
            · exact absurd hsu h
            · obtain rfl : q = p := hq.eq hp
              have e : (q.map fun k : Nat => I (k : Int)) = (natQ q).map I := by simp [natQ]
              rw [e] at ho
              obtain ⟨A, c, rfl, hi⟩ := ints_ownN ho (by simp)
              exact ⟨A, c, rfl, hi, hB⟩
          · rintro W e w' ⟨hB, ⟨h, _⟩ | ⟨_, h, _⟩ | ⟨_, _, h, _⟩ | ⟨_, _, _, h, _⟩ | ⟨_, _, _, A, c, q, rfl, hi, hq⟩⟩
            · exact absurd hok h
            · rw [hin] at h; cases h
            · exact absurd hf h
            · exact absurd hsu h
            · obtain rfl : q = p := hq.eq hp
              exact ⟨A, c, by simp [natQ], hi, hB⟩
        · refine ⟨[], 4, by simp, ?_, ?_⟩
          · rintro W e w' ⟨hB, ⟨h, _⟩ | ⟨_, h, _⟩ | ⟨_, _, h, _⟩ | ⟨_, _, _, _, h⟩ | ⟨_, _, _, v, q, _, _, hq⟩⟩
            · exact absurd hok h
            · rw [hin] at h; cases h
            · exact absurd hf h
            · exact nil_prv h hB
            · exact absurd ⟨q, hq⟩ hs
          · rintro W e w' ⟨hB, ⟨h, _⟩ | ⟨_, h, _⟩ | ⟨_, _, h, _⟩ | ⟨_, _, _, _, h⟩ | ⟨_, _, _, A, c, q, _, _, hq⟩⟩
            · exact absurd hok h
            · rw [hin] at h; cases h
            · exact absurd hf h
            · exact nil_prv h hB
            · exact absurd ⟨q, hq⟩ hs
      · refine ⟨[], 6, by simp, ?_, ?_⟩
        · rintro W e w' ⟨hB, ⟨h, _⟩ | ⟨_, h, _⟩ | ⟨_, _, _, h⟩ | ⟨_, _, h, _⟩ | ⟨_, _, h, _⟩⟩
          · exact absurd hok h
          · rw [hin] at h; cases h
          · exact nil_prv h hB
          all_goals exact absurd h hf
        · rintro W e w' ⟨hB, ⟨h, _⟩ | ⟨_, h, _⟩ | ⟨_, _, _, h⟩ | ⟨_, _, h, _⟩ | ⟨_, _, h, _⟩⟩
          · exact absurd hok h
          · rw [hin] at h; cases h
          · exact nil_prv h hB
          all_goals exact absurd h hf
  · refine ⟨[], 1, by simp, ?_, ?_⟩
    · rintro W e w' ⟨hB, ⟨_, h⟩ | ⟨h, _⟩ | ⟨h, _⟩ | ⟨h, _⟩ | ⟨h, _⟩⟩
      · exact nil_prv h hB
      all_goals exact absurd h hok
    · rintro W e w' ⟨hB, ⟨_, h⟩ | ⟨h, _⟩ | ⟨h, _⟩ | ⟨h, _⟩ | ⟨h, _⟩⟩
      · exact nil_prv h hB
      all_goals exact absurd h hok
open Classical in
theorem nu_both (m : List (Int × Int)) (l : List (Int × Int × Int)) : ∃ v u, ∀ W e w', ExcPost m l W e w' ∨ Exc16 m l W e w' → NuV v u W e w' := by
  by_cases hok : InOk m l
  · by_cases hf : ∃ x, Feas m l x
    · by_cases hs : ∃ v, IsExcess m l v
      · obtain ⟨v, hv⟩ := hs
        refine ⟨v, 0, ?_⟩
        rintro W e w' (⟨hB, ⟨h, _⟩ | ⟨_, h, _⟩ | ⟨_, v', h, he⟩⟩ | ⟨hB, ⟨h, _⟩ | ⟨_, h, _⟩ | ⟨_, v', h, he⟩⟩)
        · exact absurd hok h
        · exact absurd hf h
        · rw [h.eq hv] at he; exact ⟨he, hB⟩
        · exact absurd hok h
        · exact absurd hf h
        · rw [h.eq hv] at he; exact ⟨he, hB⟩
      · refine ⟨0, 0, ?_⟩
        rintro W e w' (⟨hB, ⟨h, _⟩ | ⟨_, h, _⟩ | ⟨_, v', h, he⟩⟩ | ⟨hB, ⟨h, _⟩ | ⟨_, h, _⟩ | ⟨_, v', h, he⟩⟩)
        · exact absurd hok h
        · exact absurd hf h
        · exact absurd ⟨_, h⟩ hs
        · exact absurd hok h
        · exact absurd hf h
        · exact absurd ⟨_, h⟩ hs
    · refine ⟨0, 6, ?_⟩
      rintro W e w' (⟨hB, ⟨h, _⟩ | ⟨_, _, h⟩ | ⟨_, v', h, he⟩⟩ | ⟨hB, ⟨h, _⟩ | ⟨_, _, h⟩ | ⟨_, v', h, he⟩⟩)
      · exact absurd hok h
      · exact ⟨h, hB⟩
      · obtain ⟨⟨x, hx, _⟩, _⟩ := h
        exact absurd ⟨x, hx⟩ hf
      · exact absurd hok h
      · exact ⟨h, hB⟩
      · obtain ⟨⟨x, hx, _⟩, _⟩ := h
        exact absurd ⟨x, hx⟩ hf
  · refine ⟨0, 1, ?_⟩
    rintro W e w' (⟨hB, ⟨_, h⟩ | ⟨h, _⟩ | ⟨h, _⟩⟩ | ⟨hB, ⟨_, h⟩ | ⟨h, _⟩ | ⟨h, _⟩⟩)
    · exact ⟨h, hB⟩
    · exact absurd h hok
    · exact absurd h hok
    · exact ⟨h, hB⟩
    · exact absurd h hok
    · exact absurd h hok
set_option maxRecDepth 100000 in
set_option maxHeartbeats 4000000 in
theorem proofs_alive (A B : Option Addr) (c d n k : Nat) (main : Int) (w : World) (hT : TabOk w) (h : greatB n k 8 = true ∨ (6 < k ∧ k ≤ 12)) :
    Calls Tryd.prog 3 #[.slice A n c, .slice B k d, I main] w fun e w' => e = .returned (.bool true) ∧ Below w.heap.size w w' := by
  have HA : Hid (∀ W, Below w.heap.size w W → Calls Tryd.prog 12 #[] W fun e w' => e = .returned (.bool true) ∧ Below W.heap.size W w') := Lib.hid fun W h => alive12 W (hT.below h)
  have HG : Hid (∀ W, Calls Tryd.prog 11 #[.slice A n c, .slice B k d, I 8] W fun e w' => e = .returned (.bool (greatB n k 8)) ∧ W = w') := Lib.hid fun W => great11 A B n c k d 8 W
  clear hT
  cases hg : greatB n k 8
  · rw [hg] at HG h
    have h2 : 6 < k ∧ k ≤ 12 := by
      rcases h with h | h
      · cases h
      · exact h
    have d1 : decide ((6 : Int) < (k : Int)) = true := decide_eq_true (by omega)
    have d1' : decide (6 < k) = true := decide_eq_true (by omega)
    have d2 : decide ((k : Int) ≤ 12) = true := decide_eq_true (by omega)
    have d2' : decide (k ≤ 12) = true := decide_eq_true (by omega)
    clear h h2
    go_enter Tryd.func3, Tryd.ntmps3
    go_wp2_with (first
      | (go_at_call 11; refine (HG.out _).mono ?_; rintro e w0 ⟨rfl, rfl⟩)
      | (go_at_call 12; refine (HA.out _ (Below.refl _ _)).mono ?_; rintro e w1 ⟨rfl, hB1⟩)
      | fail)
    go_ret
    exact ⟨rfl, hB1⟩
  · rw [hg] at HG
    clear h
    go_enter Tryd.func3, Tryd.ntmps3
    go_wp2_with (first
      | (go_at_call 11; refine (HG.out _).mono ?_; rintro e w0 ⟨rfl, rfl⟩)
      | (go_at_call 12; refine (HA.out _ (Below.refl _ _)).mono ?_; rintro e w1 ⟨rfl, hB1⟩)
      | fail)
    go_ret
    exact ⟨rfl, hB1⟩
set_option maxRecDepth 100000 in
set_option maxHeartbeats 8000000 in
theorem wproofs_any (A : Option Addr) (c : Nat) (m : List (Int × Int)) (B : Option Addr) (d : Nat) (l : List (Int × Int × Int)) (main : Int) (w : World) (hT : TabOk w) (hm : Pairs w w.heap.size A m) (hml : m.length ≤ 9223372036854775807) (hl : Threes w w.heap.size B l) (hll : l.length ≤ 9223372036854775807) (_hn0 : -9223372036854775808 ≤ main) (_hn1 : main ≤ 9223372036854775807) :
    Calls Tryd.prog 3 #[.slice A m.length c, .slice B l.length d, I main] w fun e w' => e = .returned (.bool true) ∧ Below w.heap.size w w' := by
  by_cases hbig : greatB m.length l.length 8 = true ∨ (6 < l.length ∧ l.length ≤ 12)
  · exact proofs_alive A B c d m.length l.length main w hT hbig
  have hg : greatB m.length l.length 8 = false := by
    cases h : greatB m.length l.length 8
    · rfl
    · exact absurd (.inl h) hbig
  have hl6 : l.length ≤ 6 ∨ 12 < l.length := by
    have : ¬ (6 < l.length ∧ l.length ≤ 12) := fun h => hbig (.inr h)
    omega
  have HA : Hid (∀ W, Below w.heap.size w W → Calls Tryd.prog 12 #[] W fun e w' => e = .returned (.bool true) ∧ Below W.heap.size W w') := Lib.hid fun W h => alive12 W (hT.below h)
  have HG : Hid (∀ W, Calls Tryd.prog 11 #[.slice A m.length c, .slice B l.length d, I 8] W fun e w' => e = .returned (.bool false) ∧ W = w') := Lib.hid fun W => by
    have := great11 A B m.length c l.length d 8 W
    rwa [hg] at this
  obtain ⟨xs, u, hxl, hp1, hp2⟩ := pr_both m l main
  obtain ⟨v, z, hn⟩ := nu_both m l
  have HP1 : Hid (∀ W, Below w.heap.size w W → Calls Tryd.prog 13 #[.slice A m.length c, .slice B l.length d, I main] W (PrV xs u W)) := Lib.hid fun W h => (proof13 A B c d main m l W ((hm.below h).more h.size) hml ((hl.below h).more h.size) hll (hT.below h)).mono fun e w' hp => hp1 W e w' hp
  have HP2 : Hid (∀ W, Below w.heap.size w W → Calls Tryd.prog 14 #[.slice A m.length c, .slice B l.length d, I main] W (PrV xs u W)) := Lib.hid fun W h => (proof14 A B c d main m l W (fun hok => by have := hok.2.1; omega) ((hm.below h).more h.size) hml ((hl.below h).more h.size) hll).mono fun e w' hp => hp2 W e w' hp
  have HN1 : Hid (∀ W, Below w.heap.size w W → Calls Tryd.prog 15 #[.slice A m.length c, .slice B l.length d] W (NuV v z W)) := Lib.hid fun W h => (excess15 A B c d m l W ((hm.below h).more h.size) hml ((hl.below h).more h.size) hll).mono fun e w' hp => hn W e w' (.inl hp)
  have HN2 : Hid (∀ W, Below w.heap.size w W → Calls Tryd.prog 16 #[.slice A m.length c, .slice B l.length d] W (NuV v z W)) := Lib.hid fun W h => (excess16 A B c d m l W ((hm.below h).more h.size) hml ((hl.below h).more h.size) hll).mono fun e w' hp => hn W e w' (.inr hp)
  have HI : Hid (∀ A1 c1 A2 c2 W, Ints W W.heap.size A1 xs → Ints W W.heap.size A2 xs → Calls Tryd.prog 17 #[.slice A1 xs.length c1, .slice A2 xs.length c2] W fun e w' => e = .returned (.bool true) ∧ Below W.heap.size W w') := Lib.hid fun A1 c1 A2 c2 W h1 h2 =>
    (ints17 A1 A2 c1 c2 xs xs W h1 h2 (by omega) (by omega)).mono fun e w' ⟨h, h'⟩ => ⟨by rw [h]; simp, h'⟩
  clear hp1 hp2 hn hT hm hl hbig hg
  have key : ∀ b1 b2 : Bool, (decide (6 < l.length) = b1) → (decide (l.length ≤ 12) = b2) → (b1 && b2) = false → Calls Tryd.prog 3 #[.slice A m.length c, .slice B l.length d, I main] w fun e w' => e = .returned (.bool true) ∧ Below w.heap.size w w' := fun b1 b2 e1 e2 hb => by
    have f1 : decide ((6 : Int) < (l.length : Int)) = b1 := by rw [← e1]; exact decide_eq_decide.2 (by omega)
    have f2 : decide ((l.length : Int) ≤ 12) = b2 := by rw [← e2]; exact decide_eq_decide.2 (by omega)
    clear hl6
    cases b1 <;> cases b2 <;> (first | cases hb; done | skip)
    all_goals
      clear hb
      go_enter Tryd.func3, Tryd.ntmps3
      go_wp2_with (first
        | (go_at_call 11; refine (HG.out _).mono ?_; rintro e w0 ⟨rfl, rfl⟩)
        | (go_at_call 13; refine (HP1.out _ (Below.refl _ _)).mono ?_; rintro e w1 ⟨A1, c1, rfl, h1, hB1⟩; have H1 := Lib.hid h1; clear h1)
        | (go_at_call 14; refine (HP2.out _ hB1).mono ?_; rintro e w2 ⟨A2, c2, rfl, h2, hB2⟩; have H2 := Lib.hid h2; have H12 := Lib.hid ((H1.out.below hB2).more hB2.size); have hB12 := hB1.trans (hB2.mono hB1.size); clear h2 H1)
        | (go_at_call 15; refine (HN1.out _ hB12).mono ?_; rintro e w3 ⟨rfl, hB3⟩; have H23 := Lib.hid ((H2.out.below hB3).more hB3.size); have H13 := Lib.hid ((H12.out.below hB3).more hB3.size); have hB13 := hB12.trans (hB3.mono hB12.size); clear H2 H12)
        | (go_at_call 16; refine (HN2.out _ hB13).mono ?_; rintro e w4 ⟨rfl, hB4⟩; have H24 := Lib.hid ((H23.out.below hB4).more hB4.size); have H14 := Lib.hid ((H13.out.below hB4).more hB4.size); have hB14 := hB13.trans (hB4.mono hB13.size); clear H23 H13)
        | (go_at_call 17; refine (HI.out _ _ _ _ _ H14.out H24.out).mono ?_; rintro e w5 ⟨rfl, hB5⟩; have hB15 := hB14.trans (hB5.mono hB14.size))
        | (go_at_call 12; refine (HA.out _ hB15).mono ?_; rintro e w6 ⟨rfl, hB6⟩)
        | fail)
      go_ret
      exact ⟨rfl, hB15.trans (hB6.mono hB15.size)⟩
  exact key _ _ rfl rfl (by rcases hl6 with h | h <;> simp <;> omega)
end Go.Proofs.YtgdilbilhajgaaaDoor
