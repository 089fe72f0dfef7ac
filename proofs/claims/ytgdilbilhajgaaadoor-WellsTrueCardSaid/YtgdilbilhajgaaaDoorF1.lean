/- WellsTrue, plain: a true flow, main by main. -/
import Derived.Test.YtgdilbilhajgaaaDoorD1
namespace Go.Proofs.YtgdilbilhajgaaaDoor
set_option linter.unusedVariables false
set_option linter.unusedSimpArgs false
open Go Go.RowKit

/-- The kids from p on. -/
def kidsFrom (m : List (Int × Int)) (i p : Nat) : List Nat := (kids m i).filter fun k => decide (p ≤ k)
/-- All mains from p on have their flow; the others what those give them. -/
structure FlowTo (m : List (Int × Int)) (p : Nat) (x : Nat → Int) : Prop where
  well : ∀ i, p ≤ i → i < m.length → kids m i = [] → 0 ≤ x i ∧ x i ≤ 100
  node : ∀ i, p ≤ i → i < m.length → kids m i ≠ [] → x i = sumL x (kids m i)
  rest : ∀ i, i < p → i < m.length → x i = sumL x (kidsFrom m i p)
section
variable {m : List (Int × Int)} {x : Nat → Int}
theorem kidsFrom_all (hm : MOk m) {i p : Nat} (h : p ≤ i + 1) : kidsFrom m i p = kids m i := by
  unfold kidsFrom
  exact List.filter_eq_self.2 fun k hk => decide_eq_true (by have := kids_gt hm hk; omega)
theorem kidsFrom_len {i : Nat} : kidsFrom m i m.length = [] := by
  unfold kidsFrom
  exact List.filter_eq_nil_iff.2 fun k hk => by have := kids_lt hk; simpa using this
theorem flow_start : FlowTo m m.length (fun _ => 0) := ⟨fun i h1 h2 => by omega, fun i h1 h2 => by omega, fun i _ _ => by rw [kidsFrom_len]; rfl⟩
/-- One main more among the kids. -/
theorem kidsFrom_sum (i p : Nat) (f : Nat → Int) (hp : p < m.length) : sumL f (kidsFrom m i p) = (if parW m p = (i : Int) then f p else 0) + sumL f (kidsFrom m i (p + 1)) := by
  unfold kidsFrom kids
  rw [List.filter_filter, List.filter_filter]
  have e : List.range m.length = List.range p ++ p :: (List.range' (p + 1) (m.length - (p + 1))) := by
    rw [List.range_eq_range', List.range_eq_range']
    have h1 : m.length = p + (1 + (m.length - (p + 1))) := by omega
    conv => lhs; rw [h1]
    rw [← List.range'_append_1, Nat.zero_add]
    congr 1
    rw [Nat.add_comm 1, List.range'_succ]
  rw [e, List.filter_append, List.filter_append, sumL_append, sumL_append]
  have a1 : ∀ q, (q = p ∨ q = p + 1) → (List.range p).filter (fun k => decide (q ≤ k) && decide (parW m k = (i : Int))) = [] := fun q hq => List.filter_eq_nil_iff.2 fun k hk => by
    have := List.mem_range.1 hk
    have : ¬ q ≤ k := by omega
    simp [this]
  rw [a1 p (.inl rfl), a1 (p + 1) (.inr rfl)]
  simp only [sumL, Int.zero_add]
  have a2 : ∀ q, (q = p ∨ q = p + 1) → (List.range' (p + 1) (m.length - (p + 1))).filter (fun k => decide (q ≤ k) && decide (parW m k = (i : Int))) = (List.range' (p + 1) (m.length - (p + 1))).filter (fun k => decide (parW m k = (i : Int))) := fun q hq => List.filter_congr fun k hk => by
    have := List.mem_range'_1.1 hk
    have : q ≤ k := by omega
    simp [this]
  rw [List.filter_cons, List.filter_cons]
  rw [a2 p (.inl rfl), a2 (p + 1) (.inr rfl)]
  have hn : ¬ p + 1 ≤ p := by omega
  by_cases h : parW m p = (i : Int) <;> simp [h, sumL, hn]
/-- A main's own flow is laid, and given to the one it flows into. -/
theorem FlowTo.step (hm : MOk m) {i : Nat} (hi : i < m.length) (h : FlowTo m (i + 1) x) {y : Int} (hy : kids m i = [] → 0 ≤ y ∧ y ≤ 100) (hy2 : kids m i ≠ [] → y = x i) {x' : Nat → Int}
    (hx' : ∀ k, x' k = if k = i then y else if parW m i = (k : Int) then x k + y else x k) : FlowTo m i x' := by
  have hpar : ∀ k, i ≤ k → parW m i ≠ (k : Int) := fun k hk e => by
    rcases Nat.eq_zero_or_pos i with rfl | h0
    · have := hm.root; omega
    · have := hm.par i h0 hi; omega
  have hbig : ∀ k, i < k → x' k = x k := fun k hk => by rw [hx', if_neg (by omega), if_neg (hpar k (by omega))]
  have hii : x' i = y := by rw [hx', if_pos rfl]
  refine ⟨fun j hj hjl hk => ?_, fun j hj hjl hk => ?_, fun j hj hjl => ?_⟩
  · rcases Nat.lt_or_eq_of_le hj with h1 | rfl
    · rw [hbig j h1]; exact h.well j (by omega) hjl hk
    · rw [hii]; exact hy hk
  · have hs : sumL x' (kids m j) = sumL x (kids m j) := sumL_congr fun k hk' => hbig k (by have := kids_gt hm hk'; omega)
    rw [hs]
    rcases Nat.lt_or_eq_of_le hj with h1 | rfl
    · rw [hbig j h1]; exact h.node j (by omega) hjl hk
    · rw [hii, hy2 hk, h.rest i (by omega) hjl, kidsFrom_all hm (Nat.le_refl _)]
  · rw [kidsFrom_sum j i x' hi]
    have hs : sumL x' (kidsFrom m j (i + 1)) = sumL x (kidsFrom m j (i + 1)) := sumL_congr fun k hk' => hbig k (by
      have := (List.mem_filter.1 hk').2
      simp at this
      omega)
    rw [hs, hii, ← h.rest j (by omega) hjl, hx' j, if_neg (by omega)]
    by_cases e : parW m i = (j : Int)
    · rw [if_pos e, if_pos e]; omega
    · rw [if_neg e, if_neg e]; omega
theorem FlowTo.nonneg (hm : MOk m) (h : FlowTo m 0 x) : ∀ (g i : Nat), i < m.length → m.length ≤ i + g → 0 ≤ x i
  | 0, i, hi, hg => by omega
  | g + 1, i, hi, hg => by
    by_cases hk : kids m i = []
    · exact (h.well i (Nat.zero_le _) hi hk).1
    · rw [h.node i (Nat.zero_le _) hi hk]
      have := sumL_le (f := fun _ => 0) (g := x) (l := kids m i) (fun k hk' => h.nonneg hm g k (kids_lt hk') (by have := kids_gt hm hk'; omega))
      rw [sumL_zero] at this
      exact this
theorem sumL_mem {f : Nat → Int} : ∀ {l : List Nat}, (∀ k ∈ l, 0 ≤ f k) → ∀ a ∈ l, f a ≤ sumL f l
  | k :: r, h, a, ha => by
    have h1 : 0 ≤ sumL f r := by
      have := sumL_le (f := fun _ => 0) (g := f) (l := r) (fun j hj => h j (by simp [hj]))
      rwa [sumL_zero] at this
    rcases List.mem_cons.1 ha with rfl | ha
    · simp only [sumL]; omega
    · have := sumL_mem (l := r) (fun j hj => h j (by simp [hj])) a ha
      have := h k (by simp)
      simp only [sumL]; omega
theorem FlowTo.le_root (hm : MOk m) (h : FlowTo m 0 x) (i : Nat) : i < m.length → x i ≤ x 0 := by
  induction i using Nat.strongRecOn with
  | _ i ih =>
    intro hi
    rcases Nat.eq_zero_or_pos i with rfl | h0
    · exact Int.le_refl _
    · obtain ⟨e1, e2, e3⟩ := par_nat hm h0 hi
      have h1 := ih _ e2 (by omega)
      have hne : kids m (parW m i).toNat ≠ [] := fun e => by rw [e] at e3; cases e3
      rw [h.node _ (Nat.zero_le _) (by omega) hne] at h1
      have := sumL_mem (f := x) (l := kids m (parW m i).toNat) (fun k hk => h.nonneg hm m.length k (kids_lt hk) (by omega)) i e3
      omega
theorem FlowTo.root (hm : MOk m) (h : FlowTo m 0 x) : x 0 ≤ 1600 := by
  have h1 := kids_sum hm x
  have h2 : sumL x (List.range m.length) = sumL (fun i => (if kids m i = [] then x i else 0) + sumL x (kids m i)) (List.range m.length) := sumL_congr fun i hi => by
    by_cases hk : kids m i = []
    · simp [hk, sumL]
    · rw [if_neg hk, h.node i (Nat.zero_le _) (List.mem_range.1 hi) hk]; omega
  rw [sumL_add] at h2
  have h3 := sumL_le (f := fun i => if kids m i = [] then x i else 0) (g := fun _ => 100) (l := List.range m.length) (fun i hi => by
    split
    · rename_i hk; exact (h.well i (Nat.zero_le _) (List.mem_range.1 hi) hk).2
    · omega)
  have h4 : ∀ n : Nat, sumL (fun _ => 100) (List.range n) = 100 * (n : Int) := fun n => by
    induction n with
    | zero => rfl
    | succ n ih => rw [List.range_succ, sumL_append, ih]; simp [sumL]; omega
  rw [h4] at h3
  have := hm.le
  omega
theorem FlowTo.feas (hm : MOk m) (h : FlowTo m 0 x) {l : List (Int × Int × Int)} (hl : ∀ r ∈ l, ∀ i : Nat, i < m.length → r.1 = (i : Int) → r.2.1 ≤ x i ∧ x i ≤ r.2.2) : Feas m l x :=
  feas_iff.2 fun i hi => ⟨⟨⟨h.nonneg hm m.length i hi (by omega), by have := h.le_root hm i hi; have := h.root hm; omega⟩, fun r hr e => hl r hr i hi e⟩, fun hk => h.well i (Nat.zero_le _) hi hk, fun hk => h.node i (Nat.zero_le _) hi hk⟩
end
end Go.Proofs.YtgdilbilhajgaaaDoor
/- WellsTrue: the flow by remainders, and whether a row has a number. -/
namespace Go.Proofs.YtgdilbilhajgaaaDoor
set_option linter.unusedVariables false
set_option linter.unusedSimpArgs false
open Go Go.RowKit

def BytesW (w : World) (B : Nat) (A : Option Addr) (ys : List Int) : Prop := 0 < ys.length → ∃ b off, A = some ⟨b, off, none⟩ ∧ b < B ∧ ∀ k (h : k < ys.length), w.cell? ⟨b, off + k, none⟩ = some (.int .u8 ys[k])
theorem BytesW.below {w w' : World} {B : Nat} {A : Option Addr} {ys : List Int} (h : BytesW w B A ys) (hb : Below B w w') : BytesW w' B A ys := fun h0 => by
  obtain ⟨b, off, e, hbz, hc⟩ := h h0
  exact ⟨b, off, e, hbz, fun k hk => (hb.cell (p := ⟨_, _, none⟩) hbz).trans (hc k hk)⟩
theorem BytesW.more {w : World} {B B' : Nat} {A : Option Addr} {ys : List Int} (h : BytesW w B A ys) (hB : B ≤ B') : BytesW w B' A ys := fun h0 => by
  obtain ⟨b, off, e, hbz, hc⟩ := h h0
  exact ⟨b, off, e, by omega, hc⟩
theorem info3b : (Tryd.prog.info? 3).map (fun i => (i.zero, i.size, i.bytes)) = some (some (I 0), 1, 8) := by kernel_rfl
def xF (xl : List Int) : Nat → Int := fun k => xl.getD k 0
theorem xF_set {xl : List Int} {i : Nat} (h : i < xl.length) (v : Int) (k : Nat) : xF (xl.set i v) k = if k = i then v else xF xl k := by
  unfold xF
  by_cases e : k = i
  · subst e; simp [List.getD, h]
  · simp [List.getD, e, List.getElem?_set, Ne.symm e]
theorem box_made {W : World} {base g n : Nat} {e : TypeId} (h : W.ownsRow base e 1 (.slice (some ⟨g, 0, none⟩) n n) n (madeCells (I 0).cells (n * 1)).toList) : Box W g ((List.replicate n (0 : Int)).map I) := by
  have hl := h.lt g rfl
  refine ⟨hl.2, fun k hk => ?_⟩
  have hk' : k < n := by simpa using hk
  have c0 := h.cells (g := g) rfl k (I 0) (by simp [madeCells, Value.cells, hk', Nat.mod_one])
  rw [Addr.add_lit, Nat.zero_add] at c0
  refine ⟨by simpa using c0, ?_⟩
  obtain ⟨_, h2⟩ := h
  rcases h2 with ⟨h3, _⟩ | ⟨g', cap, cur, h3, _, h4, _⟩
  · cases h3
  · injection h3 with h5 h6 h7
    obtain rfl : g = g' := by simpa using h5
    simp [World.frozen?, h4]
theorem box_setI {W : World} {S : Nat} {xl : List Int} (h : Box W S (xl.map I)) (i : Nat) (v : Int) : Box (W.setCell ⟨S, i, none⟩ (I v)) S ((xl.set i v).map I) := by
  have := h.set i (I v)
  rwa [← List.map_set] at this
def bdW (n p : Nat) : Int := 100 * (2 : Int) ^ (n - p)
theorem bdW_succ {n p : Nat} (h : p < n) : bdW n p = 2 * bdW n (p + 1) := by
  unfold bdW
  rw [show n - p = (n - (p + 1)) + 1 by omega, Int.pow_succ]
  omega
theorem bdW_pos (n p : Nat) : 100 ≤ bdW n p := by
  unfold bdW
  have : (1 : Int) ≤ (2 : Int) ^ (n - p) := by
    have h1 : 1 ≤ (2 : Nat) ^ (n - p) := Nat.one_le_two_pow
    have h3 : ((2 ^ (n - p) : Nat) : Int) = (2 : Int) ^ (n - p) := by simp
    omega
  omega
theorem bdW_le {n p : Nat} (h : n ≤ 16) : bdW n p ≤ 6553600 := by
  unfold bdW
  have h1 : (2 : Int) ^ (n - p) ≤ 65536 := by
    have h2 : (2 : Nat) ^ (n - p) ≤ 2 ^ 16 := Nat.pow_le_pow_right (by decide) (by omega)
    have h3 : ((2 ^ (n - p) : Nat) : Int) = (2 : Int) ^ (n - p) := by simp
    have h4 : (2 : Nat) ^ 16 = 65536 := by decide
    omega
  omega
/-- The state of the loop: the mains from p on have their flow. -/
def F27 (m : List (Int × Int)) (w : World) (S p : Nat) (W : World) : Prop := Below w.heap.size w W ∧ ∃ xl : List Int, Box W S (xl.map I) ∧ xl.length = m.length ∧ FlowTo m p (xF xl) ∧ ∀ j, j < m.length → 0 ≤ xF xl j ∧ xF xl j ≤ bdW m.length p

set_option maxRecDepth 100000 in
set_option maxHeartbeats 8000000 in
theorem flow27 (A B : Option Addr) (c cb : Nat) (m : List (Int × Int)) (ys : List Int) (w : World) (hok : MOk m) (hm : Pairs w w.heap.size A m) (hy : BytesW w w.heap.size B ys) (hy0 : 0 < ys.length) (hyl : ys.length ≤ 9223372036854775807) (hyb : ∀ y ∈ ys, 0 ≤ y ∧ y ≤ 255) :
    Calls Tryd.prog 27 #[.slice A m.length c, .slice B ys.length cb] w fun e w' => ∃ S xl, e = .returned (.slice (some ⟨S, 0, none⟩) m.length m.length) ∧ w.heap.size ≤ S ∧ Box w' S (xl.map I) ∧ xl.length = m.length ∧ FlowTo m 0 (xF xl) ∧ Below w.heap.size w w' := by
  have hn1 := hok.pos
  have hn16 := hok.le
  have HOK := Lib.hid hok
  have HWELL : Hid (∀ (i : Nat) W, Below w.heap.size w W → Calls Tryd.prog 29 #[.slice A m.length c, I i] W fun e w' => e = .returned (.bool (decide (kids m i = []))) ∧ Below W.heap.size W w') := Lib.hid fun i W hW => well29 A c i m W ((hm.below hW).more hW.size) (by omega)
  have HM := Lib.hid hm
  have HY := Lib.hid hy
  have HYB := Lib.hid hyb
  clear hm hy hyb hok
  obtain ⟨i0, hi0, hi1, hi2, hi3⟩ := info_parts info3b
  have hu : Tryd.prog.underlying 26 = some (.slice 3) := Tryd.underlying26
  have HU := Lib.hid hu; have HI0 := Lib.hid hi0; have HI1 := Lib.hid hi1; have HI2 := Lib.hid hi2; have HI3 := Lib.hid hi3
  clear hu hi0 hi1 hi2 hi3
  go_enter Tryd.func27, Tryd.ntmps27
  go_wp2_with (first
    | (at_make; refine wpList_make_full _ rfl _ _ 26 rfl w.heap.size 3 i0 (I 0) 1 HU.out HI0.out HI1.out HI2.out .i64 .i64 m.length m.length m.length rfl rfl rfl rfl (by rw [HI3.out]; omega) (by unfold maxLen; omega) (Nat.le_refl _) ?_; intro w1 hown hg; have HS1 := Lib.hid (box_made hown); have hB1 : Below w.heap.size w w1 := grown_below hg (Nat.le_refl _) (by simp); clear hown hg)
    | fail)
  obtain ⟨S, hS⟩ : ∃ S, S = w.heap.size := ⟨_, rfl⟩
  rw [← hS] at HS1 ⊢
  have hSw : w.heap.size ≤ S := by omega
  clear hS
  have HA0 : Hid (F27 m w S m.length w1) := Lib.hid ⟨hB1, List.replicate m.length 0, HS1.out, by simp, by
      have e : xF (List.replicate m.length 0) = fun _ => 0 := by funext k; by_cases h : k < m.length <;> simp [xF, List.getD, h]
      rw [e]; exact flow_start, fun j hj => by
      have := bdW_pos m.length m.length
      have e : xF (List.replicate m.length 0) j = 0 := by simp [xF, List.getD, hj]
      rw [e]; omega⟩
  clear HS1 hB1
  go_loopw [6] (fun s6 wr => ∃ p : Nat, p ≤ m.length ∧ s6 = I ((p : Int) - 1) ∧ Hid (F27 m w S p wr)) (fun s6 _ => (intOf s6 + 1).toNat)
  case atStart => exact ⟨m.length, Nat.le_refl _, by go_num, HA0⟩
  case round =>
    clear HA0
    obtain ⟨p, hp, rfl, HA⟩ := hrel
    by_cases hp0 : 0 < p
    · obtain ⟨i, rfl⟩ : ∃ i, p = i + 1 := ⟨p - 1, by omega⟩
      have e1 : ((i + 1 : Nat) : Int) - 1 = (i : Int) := by omega
      rw [e1]
      obtain ⟨hB, xl, hbx, hxl, hfl, hbd⟩ := HA.out
      have him : i < m.length := by omega
      have hSz := hbx.1
      have p0 : (0 : Int) ≤ (i : Int) := by omega
      have p1 : (i : Int) < (m.length : Int) := by omega
      have hBX := Lib.hid hbx
      have HFL := Lib.hid hfl
      have HBD := Lib.hid hbd
      have hlt : i < xl.length := by omega
      have hwz := hB.size
      clear hfl hbx hbd HA
      -- the round
      by_cases h0 : 0 < i
      · have g0 : decide ((0 : Int) < (i : Int)) = true := decide_eq_true (by omega)
        have g0' : decide (0 < i) = true := decide_eq_true h0
        by_cases hk : kids m i = []
        · have hkb : decide (kids m i = []) = true := decide_eq_true hk
          obtain ⟨j, hj⟩ : ∃ j : Nat, (i : Int) % (ys.length : Int) = (j : Int) := ⟨((i : Int) % (ys.length : Int)).toNat, by have := Int.emod_nonneg (i : Int) (show (ys.length : Int) ≠ 0 by omega); omega⟩
          have hjl : j < ys.length := by have := Int.emod_lt_of_pos (i : Int) (show (0 : Int) < (ys.length : Int) by omega); omega
          obtain ⟨yb, yo, hye, hyz, hyc⟩ := HY.out.below hB hy0
          subst hye
          have hyj := hyc j hjl
          have hyr := HYB.out ys[j] (List.getElem_mem hjl)
          generalize ys[j] = yv at *
          obtain ⟨y, hyy⟩ : ∃ y, yv % 101 = y := ⟨_, rfl⟩
          have hy1 : 0 ≤ y ∧ y ≤ 100 := by omega
          have HYR : Hid (0 ≤ y ∧ y ≤ bdW m.length (i + 1)) := Lib.hid (by have := bdW_pos m.length (i + 1); omega)
          have HYW : Hid (kids m i = [] → 0 ≤ y ∧ y ≤ 100) := Lib.hid fun _ => hy1
          have HYN : Hid (kids m i ≠ [] → y = xF xl i) := Lib.hid fun h => absurd hk h
          have hyzz : yb < wr.heap.size := by omega
          have p4 : (0 : Int) ≤ (j : Int) := by omega
          have p5 : (j : Int) < (ys.length : Int) := by omega
          obtain ⟨xi0, fi0⟩ := hBX.out.at_ i (I (xF xl i)) (by simp [xF, List.getD, hlt])
          have hyn : (0 : Int) < (ys.length : Int) := by omega
          clear hyc hk
          go_wp2_with (first
            | (go_at_call 29; refine (HWELL.out i _ hB).mono ?_; rw [hkb]; rintro e w2 ⟨rfl, hB2⟩; have HX2' := Lib.hid (hBX.out.call hB2); have hBw2 := hB.trans (hB2.mono hwz); have hyj2 := (hB2.cell (p := ⟨yb, yo + j, none⟩) hyzz).trans hyj; obtain ⟨xi1, fi1⟩ := HX2'.out.at_ i (I (xF xl i)) (by simp [xF, List.getD, hlt]); clear xi0 fi0 hyj)
            | fail)
          have HX2 : Hid (Box (w2.setCell ⟨S, i, none⟩ (I y)) S ((xl.set i y).map I)) := Lib.hid (box_setI HX2'.out i y)
          have hBW2 : Below w.heap.size w (w2.setCell ⟨S, i, none⟩ (I y)) := hBw2.setCell hSw _
          have hx1l : (xl.set i y).length = m.length := by simpa using hxl
          have HY1 : Hid (xF (xl.set i y) i = y) := Lib.hid (by rw [xF_set hlt, if_pos rfl])
          have HX1 : Hid (∀ k, k ≠ i → xF (xl.set i y) k = xF xl k) := Lib.hid fun k hk => by rw [xF_set hlt, if_neg hk]
          clear HX2' hBw2 hyj2 xi1 fi1
          generalize w2.setCell ⟨S, i, none⟩ (I y) = W2 at *
          generalize xl.set i y = x1 at *
          have HST : Hid (∀ x' : Nat → Int, (∀ k, x' k = if k = i then y else if parW m i = (k : Int) then xF xl k + y else xF xl k) → FlowTo m i x' ∧ ∀ j, j < m.length → 0 ≤ x' j ∧ x' j ≤ bdW m.length i) := Lib.hid fun x' hx' => by
            refine ⟨HFL.out.step HOK.out him HYW.out HYN.out hx', fun j hj => ?_⟩
            have hb := HBD.out j hj
            have hb2 := bdW_succ him
            have hb3 := HYR.out
            rw [hx' j]
            split
            · omega
            · split <;> omega
          obtain ⟨q1, q2, _⟩ := par_nat HOK.out h0 him
          obtain ⟨q, hq⟩ : ∃ q : Nat, parW m i = (q : Int) := ⟨(parW m i).toNat, q1.symm⟩
          have hqi : q < i := by rw [hq] at q2; simpa using q2
          obtain ⟨b, o, hAe, hbz, hcs⟩ := HM.out.below hBW2 (by omega)
          have hme : m[i].1 = parW m i := by simp [parW, List.getD, him]
          have hc0 := (hcs i him).1
          rw [hme, hq] at hc0
          subst hAe
          have hbW : b < W2.heap.size := by have := hBW2.size; omega
          obtain ⟨xq, fq⟩ := HX2.out.at_ q (I (xF x1 q)) (by simp [xF, List.getD, show q < x1.length by omega])
          obtain ⟨xi, fi⟩ := HX2.out.at_ i (I y) (by rw [← HY1.out]; simp [xF, List.getD, show i < x1.length by omega])
          have hxq : xF x1 q = xF xl q := HX1.out q (by omega)
          rw [hxq] at xq
          have hbq := HBD.out q (by omega)
          have hb4 := bdW_le (n := m.length) (p := i + 1) hn16
          have hyr := HYR.out
          have gw : IntKind.i64.wrap (xF xl q + y) = xF xl q + y := IntWalk.i64_in _ (by omega)
          have p2 : (0 : Int) ≤ (q : Int) := by omega
          have p3 : (q : Int) < (m.length : Int) := by omega
          have HX3 : Hid (Box ((W2.drew).setCell ⟨S, q, none⟩ (I (xF xl q + y))) S ((x1.set q (xF xl q + y)).map I)) := Lib.hid (box_setI (HX2.out.call (Below.refl _ _).drew) q _)
          have hB3 : Below w.heap.size w ((W2.drew).setCell ⟨S, q, none⟩ (I (xF xl q + y))) := (hBW2.trans (((Below.refl _ _).drew).mono hBW2.size)).setCell hSw _
          have HNX : Hid (FlowTo m i (xF (x1.set q (xF xl q + y))) ∧ ∀ j, j < m.length → 0 ≤ xF (x1.set q (xF xl q + y)) j ∧ xF (x1.set q (xF xl q + y)) j ≤ bdW m.length i) := Lib.hid (HST.out _ fun k => by
            rw [xF_set (by omega)]
            by_cases e1 : k = q
            · subst e1
              rw [if_pos rfl, if_neg (by omega), if_pos hq]
            · rw [if_neg e1]
              by_cases e2 : k = i
              · rw [if_pos e2, e2]; exact HY1.out
              · rw [if_neg e2, if_neg (by rw [hq]; omega)]
                exact HX1.out k e2)
          generalize xF xl q = aq at *
          clear hcs hme hq q1 q2 hbq hyr hb4 hxq
          refine (wpIn_wide (n := 9)).1 ?_
          refine wpIn_region_plan (Plan.ons [0, 1, 2, 3, 4, 5, 6, 7, 8, 9, 10, 11, 12, 13, 14] .fin) [] (fun _ => True) [] rfl (by kernel_rfl) (by kernel_rfl) (fun _ d _ _ _ h => by cases d <;> exact h) trivial ?_
          iterate 14 (refine ordQ_li rfl rfl rfl (fun K hK => ?_); go_simp; refine hK _ ?_; clear hK K)
          refine ordQ_hv rfl rfl rfl (fun K hK => ?_)
          gi_wp2
          refine hK _ _ (fun _ => trivial) ?_
          clear hK K
          refine ordQ_fin ?_
          go_wp2
          go_roundw
          case rel => exact ⟨i, by omega, by go_num, Lib.hid ⟨hB3, _, HX3.out, by simpa using hx1l, HNX.out.1, HNX.out.2⟩⟩
          case measure => first | (simp [intOf]; done) | (simp [intOf]; omega)
        · have hkb : decide (kids m i = []) = false := decide_eq_false hk
          obtain ⟨y, hyy⟩ : ∃ y, y = xF xl i := ⟨_, rfl⟩
          have HYR : Hid (0 ≤ y ∧ y ≤ bdW m.length (i + 1)) := Lib.hid (by rw [hyy]; exact HBD.out i him)
          have HYW : Hid (kids m i = [] → 0 ≤ y ∧ y ≤ 100) := Lib.hid fun h => absurd h hk
          have HYN : Hid (kids m i ≠ [] → y = xF xl i) := Lib.hid fun _ => hyy
          have HYY := Lib.hid hyy
          clear hk hyy
          go_wp2_with (first
            | (go_at_call 29; refine (HWELL.out i _ hB).mono ?_; rw [hkb]; rintro e W2 ⟨rfl, hB2⟩; have HX2 := Lib.hid (hBX.out.call hB2); have hBW2 := hB.trans (hB2.mono hwz))
            | fail)
          have hx1l : xl.length = m.length := hxl
          have HY1 : Hid (xF xl i = y) := Lib.hid HYY.out.symm
          have HX1 : Hid (∀ k, k ≠ i → xF xl k = xF xl k) := Lib.hid fun k hk => rfl
          obtain ⟨x1, hx1⟩ : ∃ x1, x1 = xl := ⟨_, rfl⟩
          have HX1E := Lib.hid hx1
          replace HX2 : Hid (Box W2 S (x1.map I)) := Lib.hid (by rw [hx1]; exact HX2.out)
          replace hx1l : x1.length = m.length := by rw [hx1]; exact hxl
          replace HY1 : Hid (xF x1 i = y) := Lib.hid (by rw [hx1]; exact HY1.out)
          replace HX1 : Hid (∀ k, k ≠ i → xF x1 k = xF xl k) := Lib.hid fun k _ => by rw [hx1]
          clear hx1
          have HST : Hid (∀ x' : Nat → Int, (∀ k, x' k = if k = i then y else if parW m i = (k : Int) then xF xl k + y else xF xl k) → FlowTo m i x' ∧ ∀ j, j < m.length → 0 ≤ x' j ∧ x' j ≤ bdW m.length i) := Lib.hid fun x' hx' => by
            refine ⟨HFL.out.step HOK.out him HYW.out HYN.out hx', fun j hj => ?_⟩
            have hb := HBD.out j hj
            have hb2 := bdW_succ him
            have hb3 := HYR.out
            rw [hx' j]
            split
            · omega
            · split <;> omega
          obtain ⟨q1, q2, _⟩ := par_nat HOK.out h0 him
          obtain ⟨q, hq⟩ : ∃ q : Nat, parW m i = (q : Int) := ⟨(parW m i).toNat, q1.symm⟩
          have hqi : q < i := by rw [hq] at q2; simpa using q2
          obtain ⟨b, o, hAe, hbz, hcs⟩ := HM.out.below hBW2 (by omega)
          have hme : m[i].1 = parW m i := by simp [parW, List.getD, him]
          have hc0 := (hcs i him).1
          rw [hme, hq] at hc0
          subst hAe
          have hbW : b < W2.heap.size := by have := hBW2.size; omega
          obtain ⟨xq, fq⟩ := HX2.out.at_ q (I (xF x1 q)) (by simp [xF, List.getD, show q < x1.length by omega])
          obtain ⟨xi, fi⟩ := HX2.out.at_ i (I y) (by rw [← HY1.out]; simp [xF, List.getD, show i < x1.length by omega])
          have hxq : xF x1 q = xF xl q := HX1.out q (by omega)
          rw [hxq] at xq
          have hbq := HBD.out q (by omega)
          have hb4 := bdW_le (n := m.length) (p := i + 1) hn16
          have hyr := HYR.out
          have gw : IntKind.i64.wrap (xF xl q + y) = xF xl q + y := IntWalk.i64_in _ (by omega)
          have p2 : (0 : Int) ≤ (q : Int) := by omega
          have p3 : (q : Int) < (m.length : Int) := by omega
          have HX3 : Hid (Box ((W2.drew).setCell ⟨S, q, none⟩ (I (xF xl q + y))) S ((x1.set q (xF xl q + y)).map I)) := Lib.hid (box_setI (HX2.out.call (Below.refl _ _).drew) q _)
          have hB3 : Below w.heap.size w ((W2.drew).setCell ⟨S, q, none⟩ (I (xF xl q + y))) := (hBW2.trans (((Below.refl _ _).drew).mono hBW2.size)).setCell hSw _
          have HNX : Hid (FlowTo m i (xF (x1.set q (xF xl q + y))) ∧ ∀ j, j < m.length → 0 ≤ xF (x1.set q (xF xl q + y)) j ∧ xF (x1.set q (xF xl q + y)) j ≤ bdW m.length i) := Lib.hid (HST.out _ fun k => by
            rw [xF_set (by omega)]
            by_cases e1 : k = q
            · subst e1
              rw [if_pos rfl, if_neg (by omega), if_pos hq]
            · rw [if_neg e1]
              by_cases e2 : k = i
              · rw [if_pos e2, e2]; exact HY1.out
              · rw [if_neg e2, if_neg (by rw [hq]; omega)]
                exact HX1.out k e2)
          generalize xF xl q = aq at *
          clear hcs hme hq q1 q2 hbq hyr hb4 hxq
          refine (wpIn_wide (n := 9)).1 ?_
          refine wpIn_region_plan (Plan.ons [0, 1, 2, 3, 4, 5, 6, 7, 8, 9, 10, 11, 12, 13, 14] .fin) [] (fun _ => True) [] rfl (by kernel_rfl) (by kernel_rfl) (fun _ d _ _ _ h => by cases d <;> exact h) trivial ?_
          iterate 14 (refine ordQ_li rfl rfl rfl (fun K hK => ?_); go_simp; refine hK _ ?_; clear hK K)
          refine ordQ_hv rfl rfl rfl (fun K hK => ?_)
          gi_wp2
          refine hK _ _ (fun _ => trivial) ?_
          clear hK K
          refine ordQ_fin ?_
          go_wp2
          go_roundw
          case rel => exact ⟨i, by omega, by go_num, Lib.hid ⟨hB3, _, HX3.out, by simpa using hx1l, HNX.out.1, HNX.out.2⟩⟩
          case measure => first | (simp [intOf]; done) | (simp [intOf]; omega)
      · have g0 : decide ((0 : Int) < (i : Int)) = false := decide_eq_false (by omega)
        have g0' : decide (0 < i) = false := decide_eq_false h0
        have HI0' : Hid (i = 0) := Lib.hid (by omega)
        clear h0
        by_cases hk : kids m i = []
        · have hkb : decide (kids m i = []) = true := decide_eq_true hk
          obtain ⟨j, hj⟩ : ∃ j : Nat, (i : Int) % (ys.length : Int) = (j : Int) := ⟨((i : Int) % (ys.length : Int)).toNat, by have := Int.emod_nonneg (i : Int) (show (ys.length : Int) ≠ 0 by omega); omega⟩
          have hjl : j < ys.length := by have := Int.emod_lt_of_pos (i : Int) (show (0 : Int) < (ys.length : Int) by omega); omega
          obtain ⟨yb, yo, hye, hyz, hyc⟩ := HY.out.below hB hy0
          subst hye
          have hyj := hyc j hjl
          have hyr := HYB.out ys[j] (List.getElem_mem hjl)
          generalize ys[j] = yv at *
          obtain ⟨y, hyy⟩ : ∃ y, yv % 101 = y := ⟨_, rfl⟩
          have hy1 : 0 ≤ y ∧ y ≤ 100 := by omega
          have HYR : Hid (0 ≤ y ∧ y ≤ bdW m.length (i + 1)) := Lib.hid (by have := bdW_pos m.length (i + 1); omega)
          have HYW : Hid (kids m i = [] → 0 ≤ y ∧ y ≤ 100) := Lib.hid fun _ => hy1
          have HYN : Hid (kids m i ≠ [] → y = xF xl i) := Lib.hid fun h => absurd hk h
          have hyzz : yb < wr.heap.size := by omega
          have p4 : (0 : Int) ≤ (j : Int) := by omega
          have p5 : (j : Int) < (ys.length : Int) := by omega
          obtain ⟨xi0, fi0⟩ := hBX.out.at_ i (I (xF xl i)) (by simp [xF, List.getD, hlt])
          have hyn : (0 : Int) < (ys.length : Int) := by omega
          clear hyc hk
          go_wp2_with (first
            | (go_at_call 29; refine (HWELL.out i _ hB).mono ?_; rw [hkb]; rintro e w2 ⟨rfl, hB2⟩; have HX2' := Lib.hid (hBX.out.call hB2); have hBw2 := hB.trans (hB2.mono hwz); have hyj2 := (hB2.cell (p := ⟨yb, yo + j, none⟩) hyzz).trans hyj; obtain ⟨xi1, fi1⟩ := HX2'.out.at_ i (I (xF xl i)) (by simp [xF, List.getD, hlt]); clear xi0 fi0 hyj)
            | fail)
          have HX2 : Hid (Box (w2.setCell ⟨S, i, none⟩ (I y)) S ((xl.set i y).map I)) := Lib.hid (box_setI HX2'.out i y)
          have hBW2 : Below w.heap.size w (w2.setCell ⟨S, i, none⟩ (I y)) := hBw2.setCell hSw _
          have hx1l : (xl.set i y).length = m.length := by simpa using hxl
          have HY1 : Hid (xF (xl.set i y) i = y) := Lib.hid (by rw [xF_set hlt, if_pos rfl])
          have HX1 : Hid (∀ k, k ≠ i → xF (xl.set i y) k = xF xl k) := Lib.hid fun k hk => by rw [xF_set hlt, if_neg hk]
          clear HX2' hBw2 hyj2 xi1 fi1
          generalize w2.setCell ⟨S, i, none⟩ (I y) = W2 at *
          generalize xl.set i y = x1 at *
          have HST : Hid (∀ x' : Nat → Int, (∀ k, x' k = if k = i then y else if parW m i = (k : Int) then xF xl k + y else xF xl k) → FlowTo m i x' ∧ ∀ j, j < m.length → 0 ≤ x' j ∧ x' j ≤ bdW m.length i) := Lib.hid fun x' hx' => by
            refine ⟨HFL.out.step HOK.out him HYW.out HYN.out hx', fun j hj => ?_⟩
            have hb := HBD.out j hj
            have hb2 := bdW_succ him
            have hb3 := HYR.out
            rw [hx' j]
            split
            · omega
            · split <;> omega
          have HNX : Hid (FlowTo m i (xF x1) ∧ ∀ j, j < m.length → 0 ≤ xF x1 j ∧ xF x1 j ≤ bdW m.length i) := Lib.hid (HST.out _ fun k => by
            by_cases e2 : k = i
            · rw [if_pos e2, e2]; exact HY1.out
            · rw [if_neg e2, if_neg (by rw [HI0'.out, HOK.out.root]; omega)]
              exact HX1.out k e2)
          go_roundw
          case rel => exact ⟨i, by omega, by go_num, Lib.hid ⟨hBW2, _, HX2.out, hx1l, HNX.out.1, HNX.out.2⟩⟩
          case measure => first | (simp [intOf]; done) | (simp [intOf]; omega)
        · have hkb : decide (kids m i = []) = false := decide_eq_false hk
          obtain ⟨y, hyy⟩ : ∃ y, y = xF xl i := ⟨_, rfl⟩
          have HYR : Hid (0 ≤ y ∧ y ≤ bdW m.length (i + 1)) := Lib.hid (by rw [hyy]; exact HBD.out i him)
          have HYW : Hid (kids m i = [] → 0 ≤ y ∧ y ≤ 100) := Lib.hid fun h => absurd h hk
          have HYN : Hid (kids m i ≠ [] → y = xF xl i) := Lib.hid fun _ => hyy
          have HYY := Lib.hid hyy
          clear hk hyy
          go_wp2_with (first
            | (go_at_call 29; refine (HWELL.out i _ hB).mono ?_; rw [hkb]; rintro e W2 ⟨rfl, hB2⟩; have HX2 := Lib.hid (hBX.out.call hB2); have hBW2 := hB.trans (hB2.mono hwz))
            | fail)
          have hx1l : xl.length = m.length := hxl
          have HY1 : Hid (xF xl i = y) := Lib.hid HYY.out.symm
          have HX1 : Hid (∀ k, k ≠ i → xF xl k = xF xl k) := Lib.hid fun k hk => rfl
          obtain ⟨x1, hx1⟩ : ∃ x1, x1 = xl := ⟨_, rfl⟩
          have HX1E := Lib.hid hx1
          replace HX2 : Hid (Box W2 S (x1.map I)) := Lib.hid (by rw [hx1]; exact HX2.out)
          replace hx1l : x1.length = m.length := by rw [hx1]; exact hxl
          replace HY1 : Hid (xF x1 i = y) := Lib.hid (by rw [hx1]; exact HY1.out)
          replace HX1 : Hid (∀ k, k ≠ i → xF x1 k = xF xl k) := Lib.hid fun k _ => by rw [hx1]
          clear hx1
          have HST : Hid (∀ x' : Nat → Int, (∀ k, x' k = if k = i then y else if parW m i = (k : Int) then xF xl k + y else xF xl k) → FlowTo m i x' ∧ ∀ j, j < m.length → 0 ≤ x' j ∧ x' j ≤ bdW m.length i) := Lib.hid fun x' hx' => by
            refine ⟨HFL.out.step HOK.out him HYW.out HYN.out hx', fun j hj => ?_⟩
            have hb := HBD.out j hj
            have hb2 := bdW_succ him
            have hb3 := HYR.out
            rw [hx' j]
            split
            · omega
            · split <;> omega
          have HNX : Hid (FlowTo m i (xF x1) ∧ ∀ j, j < m.length → 0 ≤ xF x1 j ∧ xF x1 j ≤ bdW m.length i) := Lib.hid (HST.out _ fun k => by
            by_cases e2 : k = i
            · rw [if_pos e2, e2]; exact HY1.out
            · rw [if_neg e2, if_neg (by rw [HI0'.out, HOK.out.root]; omega)]
              exact HX1.out k e2)
          go_roundw
          case rel => exact ⟨i, by omega, by go_num, Lib.hid ⟨hBW2, _, HX2.out, hx1l, HNX.out.1, HNX.out.2⟩⟩
          case measure => first | (simp [intOf]; done) | (simp [intOf]; omega)
    · obtain rfl : p = 0 := by omega
      have e1 : ((0 : Nat) : Int) - 1 = -1 := rfl
      rw [e1]
      obtain ⟨hB, xl, hbx, hxl, hfl, _⟩ := HA.out
      have HBX := Lib.hid hbx
      have HFL := Lib.hid hfl
      clear hbx hfl HA
      go_wp2
      go_ret
      exact ⟨S, xl, rfl, hSw, HBX.out, hxl, HFL.out, hB⟩

set_option maxRecDepth 100000 in
set_option maxHeartbeats 2000000 in
theorem has28 (A : Option Addr) (c : Nat) (xs : List Int) (i : Int) (w : World) (hx : Ints w w.heap.size A xs) (hxl : xs.length ≤ 9223372036854775807) :
    Calls Tryd.prog 28 #[.slice A xs.length c, I i] w fun e w' => e = .returned (.bool (decide (i ∈ xs))) ∧ w = w' := by
  have HX := Lib.hid hx
  have HY : Hid (∀ k (h : k < xs.length), xs[k] = i → decide (i ∈ xs) = true) := Lib.hid fun k h e => decide_eq_true (e ▸ List.getElem_mem h)
  have HN : Hid ((∀ j (h : j < xs.length), xs[j] ≠ i) → decide (i ∈ xs) = false) := Lib.hid fun h => decide_eq_false fun hm => by
    obtain ⟨j, hj, e⟩ := List.mem_iff_getElem.1 hm
    exact h j hj e
  generalize decide (i ∈ xs) = b at *
  clear hx
  go_enter Tryd.func28, Tryd.ntmps28
  go_wp2_with (fail)
  go_loopw [9] (fun s wr => ∃ k : Nat, k ≤ xs.length ∧ s = I k ∧ wr = w ∧ Hid (∀ j (h : j < xs.length), j < k → xs[j] ≠ i)) (fun s _ => xs.length - (intOf s).toNat)
  case atStart => exact ⟨0, Nat.zero_le _, rfl, (by first | trivial | rfl), Lib.hid fun j _ h => by omega⟩
  case round =>
    obtain ⟨k, hk, rfl, rfl, HP⟩ := hrel
    by_cases hlt : k < xs.length
    · obtain ⟨xb, xo, hXe, hxz, hxc⟩ := HX.out (by omega)
      subst hXe
      have x0 := hxc k hlt
      have HYk := Lib.hid (HY.out k hlt)
      have HST : Hid (xs[k] ≠ i → ∀ j (h : j < xs.length), j < k + 1 → xs[j] ≠ i) := Lib.hid fun e j h hj => by
        rcases Nat.lt_succ_iff_lt_or_eq.1 hj with h1 | rfl
        · exact HP.out j h h1
        · exact e
      generalize xs[k] = u at *
      have p2 : (0 : Int) ≤ (k : Int) := by omega
      have p3 : (k : Int) < (xs.length : Int) := by omega
      clear hxc
      by_cases he : u = i
      · have HBT := Lib.hid (HYk.out he)
        have heb : (u == i) = true := by simpa using he
        clear he
        go_wp2
        go_ret
        exact ⟨ret_b HBT.out.symm, rfl⟩
      · have heb : (u == i) = false := by simpa using he
        have HE := Lib.hid he
        clear he
        go_wp2
        go_roundw
        case rel => exact ⟨k + 1, by omega, by go_num, (by first | trivial | rfl), Lib.hid (HST.out HE.out)⟩
        case measure => first | (simp [intOf]; done) | (simp [intOf]; omega)
    · have HBF := Lib.hid (HN.out (fun j hj => HP.out j hj (by omega)))
      go_wp2
      go_ret
      exact ⟨ret_b HBF.out.symm, rfl⟩
end Go.Proofs.YtgdilbilhajgaaaDoor
