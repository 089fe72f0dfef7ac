/- The document's sum of spans. -/
import Derived.Test.YtgdilbilhajgaaaDoorCa
import Derived.Test.YtgdilbilhajgaaaDoorE26
namespace Go.Proofs.YtgdilbilhajgaaaDoor
set_option linter.unusedVariables false
set_option linter.unusedSimpArgs false
open Go Go.RowKit

/-- The mains below k that flow into one, but for one of them. -/
def selL (m : List (Int × Int)) (main not : Int) (k : Nat) : List Nat := (List.range k).filter fun j => decide (parW m j = main ∧ (j : Int) ≠ not)
theorem selL_succ (m : List (Int × Int)) (main not : Int) (k : Nat) : selL m main not (k + 1) = if parW m k = main ∧ (k : Int) ≠ not then selL m main not k ++ [k] else selL m main not k := by
  unfold selL
  rw [List.range_succ, List.filter_append]
  by_cases h : parW m k = main ∧ (k : Int) ≠ not
  · rw [if_pos h]; simp [List.filter_cons, h]
  · rw [if_neg h]; simp only [List.filter_cons, List.filter_nil, decide_eq_false h, Bool.false_eq_true, if_false, List.append_nil]
def sumS (m : List (Int × Int)) (s : Nat → Int × Int) (main not : Int) (k : Nat) : Int × Int := (sumL (fun j => (s j).1) (selL m main not k), sumL (fun j => (s j).2) (selL m main not k))
theorem sumS_succ (m : List (Int × Int)) (s : Nat → Int × Int) (main not : Int) (k : Nat) : sumS m s main not (k + 1) = if parW m k = main ∧ (k : Int) ≠ not then ((sumS m s main not k).1 + (s k).1, (sumS m s main not k).2 + (s k).2) else sumS m s main not k := by
  unfold sumS
  rw [selL_succ]
  split
  · simp [sumL_append, sumL]
  · rfl
theorem sumS_bd {m : List (Int × Int)} {s : Nat → Int × Int} (main not : Int) : ∀ k : Nat, (∀ j, j < k → (-2000 ≤ (s j).1 ∧ (s j).1 ≤ 2000) ∧ -2000 ≤ (s j).2 ∧ (s j).2 ≤ 2000) → (-2000 * (k : Int) ≤ (sumS m s main not k).1 ∧ (sumS m s main not k).1 ≤ 2000 * k) ∧ -2000 * (k : Int) ≤ (sumS m s main not k).2 ∧ (sumS m s main not k).2 ≤ 2000 * k
  | 0, _ => by simp [sumS, selL, sumL]
  | k + 1, h => by
    have ih := sumS_bd (m := m) main not k (fun j hj => h j (by omega))
    have hk := h k (by omega)
    rw [sumS_succ]
    split
    · simp only
      omega
    · omega

set_option maxRecDepth 100000 in
set_option maxHeartbeats 4000000 in
theorem sum88 (A : Option Addr) (S c cs : Nat) (m sl : List (Int × Int)) (main not : Int) (w : World) (hm : Pairs w w.heap.size A m) (hsp : SpB w S sl) (hsl : sl.length = m.length) (hm16 : m.length ≤ 16)
    (hbd : ∀ j, j < m.length → (-2000 ≤ (sF sl j).1 ∧ (sF sl j).1 ≤ 2000) ∧ -2000 ≤ (sF sl j).2 ∧ (sF sl j).2 ≤ 2000) :
    Calls Tryd.prog 88 #[.slice A m.length c, .slice (some ⟨S, 0, none⟩) m.length cs, I main, I not] w fun e w' => e = .returned (.agg #[I (sumS m (sF sl) main not m.length).1, I (sumS m (sF sl) main not m.length).2]) ∧ Below w.heap.size w w' := by
  have HM := Lib.hid hm
  have HSP := Lib.hid hsp
  have HBD : Hid (∀ k, k ≤ m.length → (-32000 ≤ (sumS m (sF sl) main not k).1 ∧ (sumS m (sF sl) main not k).1 ≤ 32000) ∧ -32000 ≤ (sumS m (sF sl) main not k).2 ∧ (sumS m (sF sl) main not k).2 ≤ 32000) := Lib.hid fun k hk => by
    have := sumS_bd (m := m) main not k (fun j hj => hbd j (by omega))
    omega
  have HB1 := Lib.hid hbd
  clear hm hsp hbd
  go_enter Tryd.func88, Tryd.ntmps88
  go_wp2_with (fail)
  have hBz : Below w.heap.size w ((w.alloc (.cells #[I 0, I 0] 39)).alloc (.cells #[I 0, I 0] 39)) := by (repeat' (first | assumption | exact Below.refl _ _ | refine Below.drew ?_ | refine below_drewN ?_ _ | refine Below.setCell ?_ (by first | omega | (simp; done) | (simp; omega)) _ | refine Below.alloc ?_ (by first | omega | (simp; done) | (simp; omega)) _ | refine Below.trans ?_ (Below.mono (by assumption) (by first | omega | (simp; done) | (simp; omega)))))
  have HR0 : Hid (Box ((w.alloc (.cells #[I 0, I 0] 39)).alloc (.cells #[I 0, I 0] 39)) w.heap.size [I 0, I 0]) := Lib.hid ((Box.new w [I 0, I 0] 39).alloc _)
  have HX0 : Hid (Box ((w.alloc (.cells #[I 0, I 0] 39)).alloc (.cells #[I 0, I 0] 39)) (w.heap.size + 1) [I (sumS m (sF sl) main not 0).1, I (sumS m (sF sl) main not 0).2]) := Lib.hid (by
    have := Box.new (w.alloc (.cells #[I 0, I 0] 39)) [I 0, I 0] 39
    rw [World.size_alloc] at this
    simpa [sumS, selL, sumL] using this)
  generalize (w.alloc (.cells #[I 0, I 0] 39)).alloc (.cells #[I 0, I 0] 39) = wz at *
  go_loopw [10] (fun s wr => ∃ k : Nat, k ≤ m.length ∧ s = I k ∧ Below w.heap.size w wr ∧ Hid (Box wr w.heap.size [I 0, I 0]) ∧ Hid (Box wr (w.heap.size + 1) [I (sumS m (sF sl) main not k).1, I (sumS m (sF sl) main not k).2])) (fun s _ => m.length - (intOf s).toNat)
  case atStart => exact ⟨0, Nat.zero_le _, rfl, hBz, HR0, HX0⟩
  case round =>
    clear hBz HR0 HX0
    obtain ⟨k, hk, rfl, hB, HR, HX⟩ := hrel
    obtain ⟨x0, y0⟩ := HX.out.at_ 0 _ rfl
    obtain ⟨x1, y1⟩ := HX.out.at_ 1 _ rfl
    have hobz := HX.out.1
    by_cases hlt : k < m.length
    · obtain ⟨b, o, rfl, hbz, hcs⟩ := (HM.out.below hB) (by omega)
      have c0 := (hcs k hlt).1
      have hks : k < sl.length := by omega
      obtain ⟨d0, d1, _, _⟩ := (HSP.out.below hB HSP.out.1).2 k hks
      have hse : sl[k] = sF sl k := by simp [sF, List.getD, hks]
      have hme : m[k].1 = parW m k := by simp [parW, List.getD, hlt]
      rw [hse] at d0 d1
      rw [hme] at c0
      have HN := Lib.hid (sumS_succ m (sF sl) main not k)
      have q := HBD.out k (by omega)
      have q' := HB1.out k hlt
      have hSz : S < wr.heap.size := Nat.lt_of_lt_of_le HSP.out.1 hB.size
      obtain ⟨tn, htn⟩ : ∃ tn, tn = sumS m (sF sl) main not (k + 1) := ⟨_, rfl⟩
      rw [← htn] at HN
      have HTN := Lib.hid htn
      clear htn hse hme
      generalize sumS m (sF sl) main not k = z at *
      obtain ⟨z1, z2⟩ := z
      generalize sF sl k = r at *
      obtain ⟨r1, r2⟩ := r
      generalize parW m k = a at *
      simp only at c0 d0 d1 x0 x1 q q'
      have hwz := hB.size
      have hbw : b < wr.heap.size := by omega
      have g1 : IntKind.i64.wrap (z1 + r1) = z1 + r1 := IntWalk.i64_in _ (by omega)
      have g2 : IntKind.i64.wrap (z2 + r2) = z2 + r2 := IntWalk.i64_in _ (by omega)
      have p0 : (0 : Int) ≤ (k : Int) := by omega
      have p1 : (k : Int) < (m.length : Int) := by omega
      have HBB := Lib.hid hB
      clear hcs q q'
      by_cases ha : a = main ∧ (k : Int) ≠ not
      · have hab : (a == main) = true := by simpa using ha.1
        have hac : ((k : Int) != not) = true := by simpa using ha.2
        have HA := Lib.hid ha
        clear ha hB
        go_wp2_with (fail)
        refine (wpIn_wide (n := 9)).1 ?_
        refine wpIn_region_plan (Plan.ons [0, 1, 2, 3, 4, 5, 6, 7, 8, 9, 10, 11, 12, 13, 14, 15, 16, 17] .fin) [] (fun _ => True) [] rfl (by kernel_rfl) (by kernel_rfl) (fun _ d _ _ _ h => by cases d <;> exact h) trivial ?_
        iterate 17 (refine ordQ_li rfl rfl rfl (fun K hK => ?_); go_simp; refine hK _ ?_; clear hK K)
        refine ordQ_hv rfl rfl rfl (fun K hK => ?_)
        gi_wp2
        refine hK _ _ (fun _ => trivial) ?_
        clear hK K
        refine ordQ_fin ?_
        have hbd : Below wr.heap.size wr wr.drew := (Below.refl _ _).drew
        have hB6 : Below w.heap.size w ((wr.drew.setCell ⟨w.heap.size + 1, 0, none⟩ (I (z1 + r1))).setCell ⟨w.heap.size + 1, 1, none⟩ (I (z2 + r2))) := ((HBB.out.trans (hbd.mono hwz)).setCell (by simp) _).setCell (by simp) _
        have HX6 : Hid (Box ((wr.drew.setCell ⟨w.heap.size + 1, 0, none⟩ (I (z1 + r1))).setCell ⟨w.heap.size + 1, 1, none⟩ (I (z2 + r2))) (w.heap.size + 1) [I tn.1, I tn.2]) := Lib.hid (by
          rw [HN.out, if_pos HA.out]
          exact ((HX.out.call hbd).set 0 _).set 1 _)
        have HR6 : Hid (Box ((wr.drew.setCell ⟨w.heap.size + 1, 0, none⟩ (I (z1 + r1))).setCell ⟨w.heap.size + 1, 1, none⟩ (I (z2 + r2))) w.heap.size [I 0, I 0]) := Lib.hid (((HR.out.call hbd).far (by simp) _).far (by simp) _)
        clear x0 x1 y0 y1
        go_wp2
        go_roundw
        case rel => exact ⟨k + 1, by omega, by go_num, hB6, HR6, Lib.hid (by rw [← HTN.out]; exact HX6.out)⟩
        case measure => first | (simp [intOf]; done) | (simp [intOf]; omega)
      · have HX2 : Hid (Box wr (w.heap.size + 1) [I tn.1, I tn.2]) := Lib.hid (by rw [HN.out, if_neg ha]; exact HX.out)
        by_cases ha1 : a = main
        · have hab : (a == main) = true := by simpa using ha1
          have hac : ((k : Int) != not) = false := by simpa using fun h => ha ⟨ha1, h⟩
          clear ha ha1
          go_wp2
          go_roundw
          case rel => exact ⟨k + 1, by omega, by go_num, hB, HR, Lib.hid (by rw [← HTN.out]; exact HX2.out)⟩
          case measure => first | (simp [intOf]; done) | (simp [intOf]; omega)
        · have hab : (a == main) = false := by simpa using ha1
          clear ha ha1
          go_wp2
          go_roundw
          case rel => exact ⟨k + 1, by omega, by go_num, hB, HR, Lib.hid (by rw [← HTN.out]; exact HX2.out)⟩
          case measure => first | (simp [intOf]; done) | (simp [intOf]; omega)
    · obtain rfl : m.length = k := by omega
      obtain ⟨c0, d0⟩ := HR.out.at_ 0 _ rfl
      obtain ⟨c1, d1⟩ := HR.out.at_ 1 _ rfl
      go_wp2
      refine bodyPost_ret (v := .agg #[I (sumS m (sF sl) main not m.length).1, I (sumS m (sF sl) main not m.length).2]) (by simp [results, Tryd.results88, go_sem, c0, c1]) rfl ⟨rfl, ?_⟩
      exact (hB.setCell (by simp) _).setCell (by simp) _
end Go.Proofs.YtgdilbilhajgaaaDoor
/- The document's spans of all mains, from the wells down and back. -/
namespace Go.Proofs.YtgdilbilhajgaaaDoor
set_option linter.unusedVariables false
set_option linter.unusedSimpArgs false
open Go Go.RowKit

/-! Plain: from the wells down. -/
def Up0 (m : List (Int × Int)) (l : List (Int × Int × Int)) (p : Nat) (s : Nat → Int × Int) : Prop := ∀ i, p ≤ i → i < m.length → s i = andS (toldW l i) (ownW m s i) ∧ (s i).1 ≤ (s i).2
theorem andS_comm (a b : Int × Int) : andS a b = andS b a := by
  unfold andS
  rw [Int.max_comm, Int.min_comm]
section
variable {m : List (Int × Int)} {l : List (Int × Int × Int)} {s : Nat → Int × Int}
theorem ownW_congr (hm : MOk m) {s s' : Nat → Int × Int} {i : Nat} (h : ∀ k, i < k → k < m.length → s k = s' k) : ownW m s i = ownW m s' i := by
  unfold ownW
  split
  · rfl
  · exact Prod.ext (sumL_congr fun k hk => by rw [h k (kids_gt hm hk) (kids_lt hk)]) (sumL_congr fun k hk => by rw [h k (kids_gt hm hk) (kids_lt hk)])
theorem Up0.to (hm : MOk m) {p : Nat} (h : Up0 m l p s) : UpTo m l p fun j => if j < p then toldW l j else s j := by
  refine ⟨fun i hp hi => ?_, fun i hp _ => if_pos hp⟩
  have e : ownW m (fun j => if j < p then toldW l j else s j) i = ownW m s i := ownW_congr hm fun k hk _ => if_neg (by omega)
  rw [e]
  simp only [show ¬ i < p by omega, if_false]
  exact h i hp hi
theorem Up0.bd (hm : MOk m) {p : Nat} (h : Up0 m l p s) {i : Nat} (hp : p ≤ i) (hi : i < m.length) : 0 ≤ (s i).1 ∧ (s i).1 ≤ (s i).2 ∧ (s i).2 ≤ 1600 := by
  have := (h.to hm).bd hp hi
  simpa only [show ¬ i < p by omega, if_false] using this
theorem Up0.sound (hm : MOk m) {p : Nat} (h : Up0 m l p s) {x : Nat → Int} (hx : Feas m l x) {i : Nat} (hp : p ≤ i) (hi : i < m.length) : (s i).1 ≤ x i ∧ x i ≤ (s i).2 := by
  have := sound_from hm (h.to hm) hx m.length i hp hi (by omega)
  simpa only [show ¬ i < p by omega, if_false] using this
theorem Up0.step (hm : MOk m) {i : Nat} (hi : i < m.length) (h : Up0 m l (i + 1) s) {s' : Nat → Int × Int} (hs' : ∀ k, s' k = if k = i then andS (ownW m s i) (toldW l i) else s k) :
    ((s' i).1 ≤ (s' i).2 → Up0 m l i s') ∧ ((s' i).2 < (s' i).1 → ¬ ∃ x, Feas m l x) := by
  have ho : ∀ j, i ≤ j → ownW m s' j = ownW m s j := fun j hj => ownW_congr hm fun k hk _ => by rw [hs', if_neg (by omega)]
  have hv : s' i = andS (toldW l i) (ownW m s i) := by rw [hs', if_pos rfl, andS_comm]
  constructor
  · intro hle j hj hjl
    rw [ho j hj]
    rcases Nat.lt_or_ge i j with h1 | h1
    · rw [hs', if_neg (by omega)]
      exact h j (by omega) hjl
    · obtain rfl : j = i := by omega
      exact ⟨hv, hle⟩
  · rintro hlt ⟨x, hx⟩
    obtain ⟨h1, h2, h3⟩ := hx i hi
    rw [hv] at hlt
    unfold ownW at hlt
    by_cases e : kids m i = []
    · have := h2 e
      simp only [e, if_true, andS] at hlt
      omega
    · simp only [e, if_false, andS] at hlt
      have h4 := h3 e
      have a := sumL_le (l := kids m i) (fun k hk => (h.sound hm hx (show i + 1 ≤ k by have := kids_gt hm hk; omega) (kids_lt hk)).1)
      have b := sumL_le (l := kids m i) (fun k hk => (h.sound hm hx (show i + 1 ≤ k by have := kids_gt hm hk; omega) (kids_lt hk)).2)
      omega
theorem sum_kids (i : Nat) : sumS m s (i : Int) (-1) m.length = (sumL (fun k => (s k).1) (kids m i), sumL (fun k => (s k).2) (kids m i)) := by
  have e : selL m (i : Int) (-1) m.length = kids m i := by
    unfold selL kids
    exact List.filter_congr fun k _ => by
      have : ¬ ((k : Int) = -1) := by omega
      simp [this]
  unfold sumS
  rw [e]
theorem sum_sibs (hm : MOk m) {x : Nat} (h0 : 0 < x) (hx : x < m.length) : sumS m s (parW m x) (x : Int) m.length = (sumL (fun k => (s k).1) (sibs m x), sumL (fun k => (s k).2) (sibs m x)) := by
  obtain ⟨p1, _, _⟩ := par_nat hm h0 hx
  have e : selL m (parW m x) (x : Int) m.length = sibs m x := by
    unfold selL sibs kids
    rw [List.filter_filter]
    refine List.filter_congr fun k _ => ?_
    rw [p1]
    by_cases h2 : k = x
    · subst h2
      simp
    · have h3 : ¬ ((k : Int) = (x : Int)) := by omega
      by_cases h1 : parW m k = parW m x <;> simp [h1, h2, h3]
  unfold sumS
  rw [e]
/-- One more main on the way back. -/
theorem back_step (hm : MOk m) {s d d' : Nat → Int × Int} {x : Nat} (h : DnP m l s (fun y => y < x) d) (h0 : 0 < x) (hx : x < m.length) {v : Int × Int}
    (hv : v = andS (d x) ((d (parW m x).toNat).1 - (sumS m d (parW m x) (x : Int) m.length).2, (d (parW m x).toNat).2 - (sumS m d (parW m x) (x : Int) m.length).1)) (hd' : ∀ k, d' k = if k = x then v else d k) : DnP m l s (fun y => y < x + 1) d' := by
  rw [sum_sibs hm h0 hx] at hv
  refine h.step hm h0 hx (by omega) (fun y _ _ => by omega) (fun k _ => Iff.rfl) (fun y hy0 hy hyx e => ?_) (fun y _ _ hyx _ => by omega) hv hd'
  have := hm.par y hy0 hy
  omega
theorem Up0.dn (hm : MOk m) (h : Up0 m l 0 s) : DnP m l s (fun y => y < 1) s := by
  have hu : UpTo m l 0 s := ⟨h, fun i hi _ => by omega⟩
  exact DnP.start hm hu _ fun x h0 _ => by omega
end
theorem spb_made {W : World} {base g n : Nat} {e : TypeId} (h : W.ownsRow base e 2 (.slice (some ⟨g, 0, none⟩) n n) n (madeCells (Value.agg #[I 0, I 0]).cells (n * 2)).toList) : g < W.heap.size ∧ (∀ k, k < n → W.cell? ⟨g, k * 2, none⟩ = some (I 0) ∧ W.cell? ⟨g, k * 2 + 1, none⟩ = some (I 0) ∧ W.frozen? ⟨g, k * 2, none⟩ = false ∧ W.frozen? ⟨g, k * 2 + 1, none⟩ = false) := by
  refine ⟨(h.lt g rfl).2, fun k hk => ?_⟩
  have h1 : k * 2 < n * 2 := by omega
  have h2 : k * 2 + 1 < n * 2 := by omega
  have h3 : (k * 2 + 1) % 2 = 1 := by omega
  have c0 := h.cells (g := g) rfl (k * 2) (I 0) (by simp [madeCells, Value.cells, h1, Nat.mul_mod_left])
  have c1 := h.cells (g := g) rfl (k * 2 + 1) (I 0) (by simp [madeCells, Value.cells, h2, h3])
  rw [Addr.add_lit, Nat.zero_add] at c0 c1
  obtain ⟨_, h2⟩ := h
  rcases h2 with ⟨h3, _⟩ | ⟨g', cap, cur, h3, _, h4, _⟩
  · cases h3
  · injection h3 with h5 h6 h7
    obtain rfl : g = g' := by simpa using h5
    exact ⟨c0, c1, by simp [World.frozen?, h4], by simp [World.frozen?, h4]⟩
theorem spb_zero {W : World} {base g n : Nat} {e : TypeId} (h : W.ownsRow base e 2 (.slice (some ⟨g, 0, none⟩) n n) n (madeCells (Value.agg #[I 0, I 0]).cells (n * 2)).toList) : SpB W g (List.replicate n (0, 0)) := by
  obtain ⟨h1, h2⟩ := spb_made h
  exact ⟨h1, fun k hk => by simpa using h2 k (by simpa using hk)⟩
end Go.Proofs.YtgdilbilhajgaaaDoor
/- The document's flows: the walk. -/
namespace Go.Proofs.YtgdilbilhajgaaaDoor
set_option linter.unusedVariables false
set_option linter.unusedSimpArgs false
open Go Go.RowKit

/-- What has been done of the region that lays the two spans: boxes 17 and 18, filled by 19 and 20. -/
def J14 (w0 : World) (d1 d2 r1 r2 : Int) (kv : Nat → Option Value) (l : Nat → Bool) (val : Nat → Value) (W : World) : Prop :=
  Below w0.heap.size w0 W ∧ (∀ k u, l k = true → kv k = some u → val k = u) ∧
  (l 17 = true → ∃ b, val 17 = .pointer (some ⟨b, 0, none⟩) ∧ w0.heap.size ≤ b ∧ Box W b (if l 19 = true then [I d1, I d2] else [I 0, I 0])) ∧
  (l 18 = true → ∃ b, val 18 = .pointer (some ⟨b, 0, none⟩) ∧ w0.heap.size ≤ b ∧ Box W b (if l 20 = true then [I r1, I r2] else [I 0, I 0])) ∧
  (l 17 = true → l 18 = true → val 17 ≠ val 18) ∧ (l 19 = true → l 17 = true) ∧ (l 20 = true → l 18 = true)
section
variable {w0 W W' : World} {d1 d2 r1 r2 : Int} {kv : Nat → Option Value} {l : Nat → Bool} {val : Nat → Value}
theorem J14.start (w0 : World) (d1 d2 r1 r2 : Int) (kv : Nat → Option Value) : J14 w0 d1 d2 r1 r2 kv (fun _ => false) (fun _ => undef) w0.drew :=
  ⟨(Below.refl _ _).drew, fun _ _ h => (by cases h), fun h => (by cases h), fun h => (by cases h), fun h => (by cases h), fun h => (by cases h), fun h => (by cases h)⟩
theorem J14.not19 (h : J14 w0 d1 d2 r1 r2 kv l val W) (hl : l 19 = false) : (if l 19 = true then [I d1, I d2] else [I 0, I 0]) = [I 0, I 0] := by rw [hl]; rfl
theorem J14.not20 (h : J14 w0 d1 d2 r1 r2 kv l val W) (hl : l 20 = false) : (if l 20 = true then [I r1, I r2] else [I 0, I 0]) = [I 0, I 0] := by rw [hl]; rfl
theorem J14.light (h : J14 w0 d1 d2 r1 r2 kv l val W) (i : Nat) (hi : i ≠ 17 ∧ i ≠ 18 ∧ i ≠ 19 ∧ i ≠ 20) (v : Value) (hv : ∀ u, kv i = some u → v = u) (hB : Below W.heap.size W W') :
    J14 w0 d1 d2 r1 r2 kv (fun j => j == i || l j) (fun j => if j = i then v else val j) W' := by
  obtain ⟨h1, h2, h3, h4, h5, h6, h7⟩ := h
  obtain ⟨a17, a18, a19, a20⟩ := hi
  have q17 : (17 == i) = false := by simpa using fun e => a17 e.symm
  have q18 : (18 == i) = false := by simpa using fun e => a18 e.symm
  have q19 : (19 == i) = false := by simpa using fun e => a19 e.symm
  have q20 : (20 == i) = false := by simpa using fun e => a20 e.symm
  have z17 : ¬ 17 = i := fun e => a17 e.symm
  have z18 : ¬ 18 = i := fun e => a18 e.symm
  refine ⟨h1.trans (hB.mono h1.size), fun k u hk hu => ?_, fun hk => ?_, fun hk => ?_, fun hk hk' => ?_, fun hk => ?_, fun hk => ?_⟩
  · by_cases e : k = i
    · subst e
      simp only [if_true]
      exact hv u hu
    · simp only [e, if_false]
      exact h2 k u (by simpa [e] using hk) hu
  · simp only [q17, Bool.false_or] at hk
    obtain ⟨b, e1, e2, e3⟩ := h3 hk
    simp only [z17, if_false, q19, Bool.false_or]
    exact ⟨b, e1, e2, e3.call hB⟩
  · simp only [q18, Bool.false_or] at hk
    obtain ⟨b, e1, e2, e3⟩ := h4 hk
    simp only [z18, if_false, q20, Bool.false_or]
    exact ⟨b, e1, e2, e3.call hB⟩
  · simp only [q17, q18, Bool.false_or] at hk hk'
    simp only [z17, z18, if_false]
    exact h5 hk hk'
  · simp only [q17, q19, Bool.false_or] at hk ⊢
    exact h6 hk
  · simp only [q18, q20, Bool.false_or] at hk ⊢
    exact h7 hk
theorem J14.alloc17 (h : J14 w0 d1 d2 r1 r2 kv l val W) (hl : l 17 = false) (hk17 : kv 17 = none := by rfl) :
    J14 w0 d1 d2 r1 r2 kv (fun j => j == 17 || l j) (fun j => if j = 17 then .pointer (some ⟨W.heap.size, 0, none⟩) else val j) (W.alloc (.cells #[I 0, I 0] 39)) := by
  obtain ⟨h1, h2, h3, h4, h5, h6, h7⟩ := h
  have l19 : l 19 = false := by
    cases e : l 19
    · rfl
    · rw [h6 e] at hl; cases hl
  have hB : Below W.heap.size W (W.alloc (.cells #[I 0, I 0] 39)) := (Below.refl _ _).alloc (Nat.le_refl _) _
  refine ⟨h1.trans (hB.mono h1.size), fun k u hk hu => ?_, fun _ => ⟨W.heap.size, by simp, h1.size, ?_⟩, fun hk => ?_, fun _ hk' => ?_, fun hk => by simp, fun hk => ?_⟩
  · by_cases e : k = 17
    · subst e; rw [hk17] at hu; cases hu
    · simp only [e, if_false]
      exact h2 k u (by simpa [e] using hk) hu
  · simp only [show ((19 == 17) || l 19) = false by simpa using l19]
    exact Box.new W [I 0, I 0] 39
  · have hk : l 18 = true := by simpa using hk
    obtain ⟨b, e1, e2, e3⟩ := h4 hk
    refine ⟨b, by simpa using e1, e2, ?_⟩
    simpa using e3.call hB
  · have hk' : l 18 = true := by simpa using hk'
    obtain ⟨b, e1, e2, e3⟩ := h4 hk'
    have := e3.1
    simp [e1]
    try omega
  · simpa using h7 (by simpa using hk)
theorem J14.alloc18 (h : J14 w0 d1 d2 r1 r2 kv l val W) (hl : l 18 = false) (hk18 : kv 18 = none := by rfl) :
    J14 w0 d1 d2 r1 r2 kv (fun j => j == 18 || l j) (fun j => if j = 18 then .pointer (some ⟨W.heap.size, 0, none⟩) else val j) (W.alloc (.cells #[I 0, I 0] 39)) := by
  obtain ⟨h1, h2, h3, h4, h5, h6, h7⟩ := h
  have l20 : l 20 = false := by
    cases e : l 20
    · rfl
    · rw [h7 e] at hl; cases hl
  have hB : Below W.heap.size W (W.alloc (.cells #[I 0, I 0] 39)) := (Below.refl _ _).alloc (Nat.le_refl _) _
  refine ⟨h1.trans (hB.mono h1.size), fun k u hk hu => ?_, fun hk => ?_, fun _ => ⟨W.heap.size, by simp, h1.size, ?_⟩, fun hk' _ => ?_, fun hk => ?_, fun hk => by simp⟩
  · by_cases e : k = 18
    · subst e; rw [hk18] at hu; cases hu
    · simp only [e, if_false]
      exact h2 k u (by simpa [e] using hk) hu
  · have hk : l 17 = true := by simpa using hk
    obtain ⟨b, e1, e2, e3⟩ := h3 hk
    refine ⟨b, by simpa using e1, e2, ?_⟩
    simpa using e3.call hB
  · simp only [show ((20 == 18) || l 20) = false by simpa using l20]
    exact Box.new W [I 0, I 0] 39
  · have hk' : l 17 = true := by simpa using hk'
    obtain ⟨b, e1, e2, e3⟩ := h3 hk'
    have := e3.1
    simp [e1]
    try omega
  · simpa using h6 (by simpa using hk)
theorem J14.store19 (h : J14 w0 d1 d2 r1 r2 kv l val W) (hl : l 19 = false) (h17 : l 17 = true) {b : Nat} (hb : val 17 = .pointer (some ⟨b, 0, none⟩)) (v : Value) (hk19 : kv 19 = none := by rfl) :
    J14 w0 d1 d2 r1 r2 kv (fun j => j == 19 || l j) (fun j => if j = 19 then v else val j) ((W.setCell ⟨b, 0, none⟩ (I d1)).setCell ⟨b, 1, none⟩ (I d2)) := by
  obtain ⟨h1, h2, h3, h4, h5, h6, h7⟩ := h
  obtain ⟨b', e1, e2, e3⟩ := h3 h17
  rw [hb] at e1
  injection e1 with e1; injection e1 with e1; injection e1 with e1
  subst e1
  refine ⟨(h1.setCell e2 _).setCell e2 _, fun k u hk hu => ?_, fun _ => ⟨b, by simpa using hb, e2, ?_⟩, fun hk => ?_, fun _ hk' => ?_, fun _ => by simpa using h17, fun hk => ?_⟩
  · by_cases e : k = 19
    · subst e; rw [hk19] at hu; cases hu
    · simp only [e, if_false]
      exact h2 k u (by simpa [e] using hk) hu
  · rw [hl] at e3
    simpa using (e3.set 0 (I d1)).set 1 (I d2)
  · have hk : l 18 = true := by simpa using hk
    obtain ⟨b2, f1, f2, f3⟩ := h4 hk
    have hne := h5 h17 hk
    rw [hb, f1] at hne
    have hbb : b ≠ b2 := fun e => hne (by rw [e])
    refine ⟨b2, by simpa using f1, f2, ?_⟩
    simpa using (f3.far (p := ⟨b, 0, none⟩) (by simpa using hbb) (I d1)).far (p := ⟨b, 1, none⟩) (by simpa using hbb) (I d2)
  · have hk' : l 18 = true := by simpa using hk'
    simpa using h5 h17 hk'
  · simpa using h7 (by simpa using hk)
theorem J14.store20 (h : J14 w0 d1 d2 r1 r2 kv l val W) (hl : l 20 = false) (h18 : l 18 = true) {b : Nat} (hb : val 18 = .pointer (some ⟨b, 0, none⟩)) (v : Value) (hk20 : kv 20 = none := by rfl) :
    J14 w0 d1 d2 r1 r2 kv (fun j => j == 20 || l j) (fun j => if j = 20 then v else val j) ((W.setCell ⟨b, 0, none⟩ (I r1)).setCell ⟨b, 1, none⟩ (I r2)) := by
  obtain ⟨h1, h2, h3, h4, h5, h6, h7⟩ := h
  obtain ⟨b', e1, e2, e3⟩ := h4 h18
  rw [hb] at e1
  injection e1 with e1; injection e1 with e1; injection e1 with e1
  subst e1
  refine ⟨(h1.setCell e2 _).setCell e2 _, fun k u hk hu => ?_, fun hk => ?_, fun _ => ⟨b, by simpa using hb, e2, ?_⟩, fun hk' _ => ?_, fun hk => ?_, fun _ => by simpa using h18⟩
  · by_cases e : k = 20
    · subst e; rw [hk20] at hu; cases hu
    · simp only [e, if_false]
      exact h2 k u (by simpa [e] using hk) hu
  · have hk : l 17 = true := by simpa using hk
    obtain ⟨b2, f1, f2, f3⟩ := h3 hk
    have hne := h5 hk h18
    rw [hb, f1] at hne
    have hbb : b ≠ b2 := fun e => hne (by rw [e])
    refine ⟨b2, by simpa using f1, f2, ?_⟩
    simpa using (f3.far (p := ⟨b, 0, none⟩) (by simpa using hbb) (I r1)).far (p := ⟨b, 1, none⟩) (by simpa using hbb) (I r2)
  · rw [hl] at e3
    simpa using (e3.set 0 (I r1)).set 1 (I r2)
  · have hk' : l 17 = true := by simpa using hk'
    simpa using h5 hk' h18
  · simpa using h6 (by simpa using hk)
theorem J14.fin (h : J14 w0 d1 d2 r1 r2 kv l val W) (a : l 17 = true) (b : l 18 = true) (c : l 19 = true) (d : l 20 = true) :
    ∃ b10 b11, val 17 = .pointer (some ⟨b10, 0, none⟩) ∧ val 18 = .pointer (some ⟨b11, 0, none⟩) ∧ w0.heap.size ≤ b10 ∧ w0.heap.size ≤ b11 ∧ Box W b10 [I d1, I d2] ∧ Box W b11 [I r1, I r2] ∧ b10 ≠ b11 ∧ Below w0.heap.size w0 W := by
  obtain ⟨h1, h2, h3, h4, h5, h6, h7⟩ := h
  obtain ⟨b10, e1, e2, e3⟩ := h3 a
  obtain ⟨b11, f1, f2, f3⟩ := h4 b
  rw [c] at e3
  rw [d] at f3
  have hne := h5 a b
  rw [e1, f1] at hne
  exact ⟨b10, b11, e1, f1, e2, f2, by simpa using e3, by simpa using f3, fun e => hne (by rw [e]), h1⟩
end
/-- What the document's flows answer. -/
def Fl66 (m : List (Int × Int)) (l : List (Int × Int × Int)) (w : World) (e : Ending) (w' : World) : Prop :=
  Below w.heap.size w w' ∧ (((¬ ∃ x, Feas m l x) ∧ e = .returned (.tuple #[nilS, .bool false])) ∨ (∃ S sl, e = .returned (.tuple #[.slice (some ⟨S, 0, none⟩) m.length m.length, .bool true]) ∧ w.heap.size ≤ S ∧ SpB w' S sl ∧ sl.length = m.length ∧ IsSpans m l (sF sl)))
theorem up0_bd2 {m : List (Int × Int)} {l : List (Int × Int × Int)} {sl : List (Int × Int)} (hm : MOk m) {p : Nat} (h : Up0 m l p (sF sl)) (h0 : ∀ j, j < p → sF sl j = (0, 0)) : ∀ j, j < m.length → (-2000 ≤ (sF sl j).1 ∧ (sF sl j).1 ≤ 2000) ∧ -2000 ≤ (sF sl j).2 ∧ (sF sl j).2 ≤ 2000 := fun j hj => by
  rcases Nat.lt_or_ge j p with hp | hp
  · rw [h0 j hp]; simp
  · have := h.bd hm hp hj
    omega
/-- The state of the first loop, and of the second. -/
def D3a (m : List (Int × Int)) (l : List (Int × Int × Int)) (w : World) (S p : Nat) (W : World) : Prop := Below w.heap.size w W ∧ ∃ sl, SpB W S sl ∧ sl.length = m.length ∧ Up0 m l p (sF sl) ∧ ∀ j, j < p → sF sl j = (0, 0)
def D3b (m : List (Int × Int)) (l : List (Int × Int × Int)) (w : World) (S i : Nat) (W : World) : Prop := Below w.heap.size w W ∧ ∃ sl s, SpB W S sl ∧ sl.length = m.length ∧ DnP m l s (fun y => y < i) (sF sl)
theorem D3a.to {m : List (Int × Int)} {l : List (Int × Int × Int)} {w W : World} {S : Nat} (hm : MOk m) (h : D3a m l w S 0 W) : D3b m l w S 1 W := by
  obtain ⟨hB, sl, h1, h2, h3, _⟩ := h
  exact ⟨hB, sl, _, h1, h2, h3.dn hm⟩

set_option maxRecDepth 100000 in
set_option maxHeartbeats 8000000 in
theorem flows66 (A B : Option Addr) (c cb : Nat) (m : List (Int × Int)) (l : List (Int × Int × Int)) (w : World) (hok : MOk m) (hm : Pairs w w.heap.size A m) (hl : Threes w w.heap.size B l) (hll : l.length ≤ 9223372036854775807) :
    Calls Tryd.prog 66 #[.slice A m.length c, .slice B l.length cb] w (Fl66 m l w) := by
  have hn1 := hok.pos
  have hn16 := hok.le
  have HOK := Lib.hid hok
  have HWELL : Hid (∀ (i : Nat) W, Below w.heap.size w W → Calls Tryd.prog 29 #[.slice A m.length c, I i] W fun e w' => e = .returned (.bool (decide (kids m i = []))) ∧ Below W.heap.size W w') := Lib.hid fun i W hW => well29 A c i m W ((hm.below hW).more hW.size) (by omega)
  have HTOLD : Hid (∀ (i : Nat) W, Below w.heap.size w W → Calls Tryd.prog 70 #[.slice B l.length cb, I i] W fun e w' => e = .returned (.agg #[I (toldW l i).1, I (toldW l i).2]) ∧ Below W.heap.size W w') := Lib.hid fun i W hW => told70 B cb i l W ((hl.below hW).more hW.size) hll
  have HSUM : Hid (∀ S main not sl W, Below w.heap.size w W → SpB W S sl → sl.length = m.length → (∀ j, j < m.length → (-2000 ≤ (sF sl j).1 ∧ (sF sl j).1 ≤ 2000) ∧ -2000 ≤ (sF sl j).2 ∧ (sF sl j).2 ≤ 2000) →
      Calls Tryd.prog 88 #[.slice A m.length c, .slice (some ⟨S, 0, none⟩) m.length m.length, I main, I not] W fun e w' => e = .returned (.agg #[I (sumS m (sF sl) main not m.length).1, I (sumS m (sF sl) main not m.length).2]) ∧ Below W.heap.size W w') := Lib.hid fun S main not sl W hW hS hsl hbd =>
    sum88 A S c m.length m sl main not W ((hm.below hW).more hW.size) hS hsl hn16 hbd
  have HM := Lib.hid hm
  clear hm hl hok
  obtain ⟨i0, hi0, hi1, hi2, hi3⟩ := info_parts info39
  have hu : Tryd.prog.underlying 34 = some (.slice 39) := Tryd.underlying34
  have HU := Lib.hid hu; have HI0 := Lib.hid hi0; have HI1 := Lib.hid hi1; have HI2 := Lib.hid hi2; have HI3 := Lib.hid hi3
  clear hu hi0 hi1 hi2 hi3
  go_enter Tryd.func66, Tryd.ntmps66
  go_wp2_with (first
    | (at_make; refine wpList_make_full _ rfl _ _ 34 rfl w.heap.size 39 i0 (.agg #[I 0, I 0]) 2 HU.out HI0.out HI1.out HI2.out .i64 .i64 m.length m.length m.length rfl rfl rfl rfl (by rw [HI3.out]; omega) (by unfold maxLen; omega) (Nat.le_refl _) ?_; intro w1 hown hg; have HS1 := Lib.hid (spb_zero hown); have hB1 : Below w.heap.size w w1 := grown_below hg (Nat.le_refl _) (by simp); clear hown hg)
    | fail)
  obtain ⟨S, hS⟩ : ∃ S, S = w.heap.size := ⟨_, rfl⟩
  rw [← hS] at HS1 ⊢
  have hSw : w.heap.size ≤ S := by omega
  clear hS
  have HA0 : Hid (D3a m l w S m.length w1) := Lib.hid ⟨hB1, _, HS1.out, by simp, fun i h1 h2 => by omega, fun j hj => by simp [sF, List.getD, hj]⟩
  clear HS1 hB1
  go_loopw [7] (fun s7 wr => ∃ p : Nat, p ≤ m.length ∧ s7 = I ((p : Int) - 1) ∧ Hid (D3a m l w S p wr)) (fun s7 _ => (intOf s7 + 1).toNat)
  case atStart => exact ⟨m.length, Nat.le_refl _, by go_num, HA0⟩
  case round =>
    clear HA0
    obtain ⟨p, hp, rfl, HA⟩ := hrel
    by_cases hp0 : 0 < p
    · obtain ⟨i, rfl⟩ : ∃ i, p = i + 1 := ⟨p - 1, by omega⟩
      have e1 : ((i + 1 : Nat) : Int) - 1 = (i : Int) := by omega
      rw [e1]
      obtain ⟨hB, sl, hsp, hsl, hup, hz⟩ := HA.out
      have HSP := Lib.hid hsp
      have HUP := Lib.hid hup
      have HZ := Lib.hid hz
      have hbd := up0_bd2 HOK.out hup hz
      have HBD := Lib.hid hbd
      have hSz := hsp.1
      clear hsp hup hz hbd HA
      have him : i < m.length := by omega
      have hst := Up0.step HOK.out him HUP.out (s' := sF (sl.set i (andS (ownW m (sF sl) i) (toldW l i)))) (fun k => sF_set (by omega) _ k)
      have hstv : sF (sl.set i (andS (ownW m (sF sl) i) (toldW l i))) i = andS (ownW m (sF sl) i) (toldW l i) := by rw [sF_set (by omega), if_pos rfl]
      rw [hstv] at hst
      have HST := Lib.hid hst
      clear hst hstv
      obtain ⟨o, ho⟩ : ∃ o, o = ownW m (sF sl) i := ⟨_, rfl⟩
      rw [← ho] at HST
      have p0 : (0 : Int) ≤ (i : Int) := by omega
      have p1 : (i : Int) < (m.length : Int) := by omega
      have hwz := hB.size
      have hBa : Below w.heap.size w (wr.alloc (.cells #[I 0, I 100] 39)) := hB.alloc hwz _
      have HBa : Hid (Box (wr.alloc (.cells #[I 0, I 100] 39)) wr.heap.size [I 0, I 100]) := Lib.hid (Box.new wr [I 0, I 100] 39)
      have HSa := Lib.hid (HSP.out.alloc (.cells #[I 0, I 100] 39))
      by_cases hk : kids m i = []
      · have ho' : o = (0, 100) := by rw [ho]; unfold ownW; rw [if_pos hk]
        have hkb : decide (kids m i = []) = true := decide_eq_true hk
        clear ho hk
        subst ho'
        go_wp2_with (first
          | (go_at_call 29; refine (HWELL.out i _ hBa).mono ?_; rw [hkb]; rintro e W0 ⟨rfl, hB2⟩; have HX0 := Lib.hid (HBa.out.call hB2); have HS0 := Lib.hid (HSa.out.call hB2); have hB0 := hBa.trans (hB2.mono hBa.size); clear hB2)
          | fail)
        clear HSa HBa hBa hB HSP hkb
        simp only [andS] at HST
        -- region 8: world W0, box wr.heap.size holds o; HX0, HS0, hB0
        have hBW0 := hB0
        have hz0 := hB0.size
        have hob := HX0.out.1
        have HCE : Hid (∀ W, Below W0.heap.size W0 W → W.cell? ⟨wr.heap.size, 0, none⟩ = some (I 0) ∧ W.cell? ⟨wr.heap.size, 1, none⟩ = some (I 100)) := Lib.hid fun W hW => ⟨((HX0.out.call hW).at_ 0 _ rfl).1, ((HX0.out.call hW).at_ 1 _ rfl).1⟩
        have HB0 := Lib.hid hB0
        clear hB0 hBW0
        refine (wpIn_wide (n := 9)).1 ?_
        refine wpIn_region_plan (Plan.ons [0, 1, 2, 3, 4, 5, 6, 7, 8] .fin) [0, 1, 2] (fun W' => Below W0.heap.size W0 W') [8] rfl (by kernel_rfl) (by kernel_rfl) (fun _ d _ _ _ h => by cases d <;> exact h) (Below.refl _ _).drew ?_
        (refine ordQ_held (.slice (some ⟨S, 0, none⟩) m.length m.length) rfl rfl rfl rfl (fun W' hC' => ?_) (fun K hK => ?_); (focus (obtain _ := HCE.out _ hC'; go_simp; try exact ⟨rfl, rfl⟩)); go_simp; refine hK _ ?_; clear hK K)
        (refine ordQ_held (I i) rfl rfl rfl rfl (fun W' hC' => ?_) (fun K hK => ?_); (focus (obtain _ := HCE.out _ hC'; go_simp; try exact ⟨rfl, rfl⟩)); go_simp; refine hK _ ?_; clear hK K)
        (refine ordQ_held (.agg #[I 0, I 100]) rfl rfl rfl rfl (fun W' hC' => ?_) (fun K hK => ?_); (focus (obtain ⟨e0, e1⟩ := HCE.out _ hC'; go_simp; try exact ⟨rfl, rfl⟩)); go_simp; refine hK _ ?_; clear hK K)
        iterate 2 (refine ordQ_li rfl rfl rfl (fun K hK => ?_); go_simp; refine hK _ ?_; clear hK K)
        refine ordQ_hv rfl rfl rfl (fun K hK => ?_)
        gi_wp2_with (refine And.intro trivial ?_; gi_at_call 70; refine callsIn_wide.2 ((HTOLD.out i _ (HB0.out.trans (((Below.refl _ _).drew).mono hz0))).mono ?_); rintro e w3 ⟨rfl, hB3⟩)
        have hb3 : Below W0.heap.size W0 w3 := by simpa using (Below.refl _ _).drew.trans hB3
        refine hK _ _ (fun _ => hb3) ?_
        clear hK K hB3
        refine ordQ_hv rfl rfl rfl (fun K hK => ?_)
        gi_wp2_with (refine And.intro trivial ?_; gi_at_call 89; refine callsIn_wide.2 ((both89 _ _ _ _ _).mono ?_); rintro e w4 ⟨rfl, hB4⟩)
        have hb4 : Below W0.heap.size W0 w4 := hb3.trans (hB4.mono hb3.size)
        refine hK _ _ (fun _ => hb4) ?_
        clear hK K hB4
        have HS4 := Lib.hid (HS0.out.call hb4)
        obtain ⟨s1, s2, s3, s4⟩ := HS4.out.2 i (by omega)
        (refine ordQ_li rfl rfl rfl (fun K hK => ?_); go_simp; refine hK _ ?_; clear hK K)
        refine ordQ_hv rfl rfl rfl (fun K hK => ?_)
        gi_wp2
        refine hK _ _ (fun h => by cases h) ?_
        clear hK K
        refine ordQ_fin ?_
        have HS8 : Hid (SpB ((w4.setCell ⟨S, i * 2, none⟩ (I (max 0 (toldW l i).1))).setCell ⟨S, i * 2 + 1, none⟩ (I (min 100 (toldW l i).2))) S (sl.set i (max 0 (toldW l i).1, min 100 (toldW l i).2))) := Lib.hid (HS4.out.set i (by omega) _ _)
        have hB8 : Below w.heap.size w ((w4.setCell ⟨S, i * 2, none⟩ (I (max 0 (toldW l i).1))).setCell ⟨S, i * 2 + 1, none⟩ (I (min 100 (toldW l i).2))) := ((HB0.out.trans (hb4.mono hz0)).setCell hSw _).setCell hSw _
        clear s1 s2 s3 s4 HS4 hb4 hb3 HCE HX0 HS0 hob HB0
        generalize (w4.setCell ⟨S, i * 2, none⟩ (I (max 0 (toldW l i).1))).setCell ⟨S, i * 2 + 1, none⟩ (I (min 100 (toldW l i).2)) = W8 at *
        obtain ⟨s1, s2, _, _⟩ := HS8.out.2 i (by simp; omega)
        simp only [List.getElem_set_self] at s1 s2
        by_cases hle : max 0 (toldW l i).1 ≤ min 100 (toldW l i).2
        · have hgt : decide (min 100 (toldW l i).2 < max 0 (toldW l i).1) = false := decide_eq_false (by omega)
          have HLE := Lib.hid hle
          clear hle
          go_wp2_with (fail)
          go_quiet (fail)
          go_wp2
          go_roundw
          case rel => exact ⟨i, by omega, by go_num, Lib.hid ⟨below_drewN hB8 _, _, HS8.out.drewN _, by simpa using hsl, HST.out.1 HLE.out, fun j hj => by rw [sF_set (by omega), if_neg (by omega)]; exact HZ.out j (by omega)⟩⟩
          case measure => first | (simp [intOf]; done) | (simp [intOf]; omega)
        · have hgt : decide (min 100 (toldW l i).2 < max 0 (toldW l i).1) = true := decide_eq_true (by omega)
          have HLE := Lib.hid hle
          clear hle
          go_wp2_with (fail)
          go_quiet (fail)
          go_wp2
          go_ret2
          exact ⟨below_drewN hB8 _, .inl ⟨HST.out.2 (by have := HLE.out; omega), rfl⟩⟩
      · have ho' : o = sumS m (sF sl) (i : Int) (-1) m.length := by rw [ho, sum_kids]; unfold ownW; rw [if_neg hk]
        have hkb : decide (kids m i = []) = false := decide_eq_false hk
        have HHO := Lib.hid ho'
        clear ho hk ho'
        go_wp2_with (first
          | (go_at_call 29; refine (HWELL.out i _ hBa).mono ?_; rw [hkb]; rintro e W2 ⟨rfl, hB2⟩; have HX2 := Lib.hid (HBa.out.call hB2); have HS2 := Lib.hid (HSa.out.call hB2); have hBw := hBa.trans (hB2.mono hBa.size); clear hB2)
          | (go_at_call 88; refine (HSUM.out S i (-1) sl W2 hBw HS2.out hsl HBD.out).mono ?_; rw [← HHO.out]; rintro e W3 ⟨rfl, hB3⟩; have HX3 := Lib.hid (HX2.out.call hB3); have HS3 := Lib.hid (HS2.out.call hB3); have hBw3 := hBw.trans (hB3.mono hBw.size); obtain ⟨x0, y0⟩ := HX3.out.at_ 0 _ rfl; obtain ⟨x1, y1⟩ := HX3.out.at_ 1 _ rfl; clear hB3)
          | fail)
        have HX0 : Hid (Box ((W3.setCell ⟨wr.heap.size, 0, none⟩ (I o.1)).setCell ⟨wr.heap.size, 1, none⟩ (I o.2)) wr.heap.size [I o.1, I o.2]) := Lib.hid ((HX3.out.set 0 _).set 1 _)
        have HS0 : Hid (SpB ((W3.setCell ⟨wr.heap.size, 0, none⟩ (I o.1)).setCell ⟨wr.heap.size, 1, none⟩ (I o.2)) S sl) := Lib.hid ((HS3.out.far (by simp; omega) _).far (by simp; omega) _)
        have hB0 : Below w.heap.size w ((W3.setCell ⟨wr.heap.size, 0, none⟩ (I o.1)).setCell ⟨wr.heap.size, 1, none⟩ (I o.2)) := (hBw3.setCell hwz _).setCell hwz _
        clear HX2 HX3 HS2 HS3 hBw hBw3 x0 x1 y0 y1 HSa HBa hBa hB HSP hkb HHO
        generalize (W3.setCell ⟨wr.heap.size, 0, none⟩ (I o.1)).setCell ⟨wr.heap.size, 1, none⟩ (I o.2) = W0 at *
        obtain ⟨o1, o2⟩ := o
        simp only [andS] at HST
        -- region 8: world W0, box wr.heap.size holds o; HX0, HS0, hB0
        have hBW0 := hB0
        have hz0 := hB0.size
        have hob := HX0.out.1
        have HCE : Hid (∀ W, Below W0.heap.size W0 W → W.cell? ⟨wr.heap.size, 0, none⟩ = some (I o1) ∧ W.cell? ⟨wr.heap.size, 1, none⟩ = some (I o2)) := Lib.hid fun W hW => ⟨((HX0.out.call hW).at_ 0 _ rfl).1, ((HX0.out.call hW).at_ 1 _ rfl).1⟩
        have HB0 := Lib.hid hB0
        clear hB0 hBW0
        refine (wpIn_wide (n := 9)).1 ?_
        refine wpIn_region_plan (Plan.ons [0, 1, 2, 3, 4, 5, 6, 7, 8] .fin) [0, 1, 2] (fun W' => Below W0.heap.size W0 W') [8] rfl (by kernel_rfl) (by kernel_rfl) (fun _ d _ _ _ h => by cases d <;> exact h) (Below.refl _ _).drew ?_
        (refine ordQ_held (.slice (some ⟨S, 0, none⟩) m.length m.length) rfl rfl rfl rfl (fun W' hC' => ?_) (fun K hK => ?_); (focus (obtain _ := HCE.out _ hC'; go_simp; try exact ⟨rfl, rfl⟩)); go_simp; refine hK _ ?_; clear hK K)
        (refine ordQ_held (I i) rfl rfl rfl rfl (fun W' hC' => ?_) (fun K hK => ?_); (focus (obtain _ := HCE.out _ hC'; go_simp; try exact ⟨rfl, rfl⟩)); go_simp; refine hK _ ?_; clear hK K)
        (refine ordQ_held (.agg #[I o1, I o2]) rfl rfl rfl rfl (fun W' hC' => ?_) (fun K hK => ?_); (focus (obtain ⟨e0, e1⟩ := HCE.out _ hC'; go_simp; try exact ⟨rfl, rfl⟩)); go_simp; refine hK _ ?_; clear hK K)
        iterate 2 (refine ordQ_li rfl rfl rfl (fun K hK => ?_); go_simp; refine hK _ ?_; clear hK K)
        refine ordQ_hv rfl rfl rfl (fun K hK => ?_)
        gi_wp2_with (refine And.intro trivial ?_; gi_at_call 70; refine callsIn_wide.2 ((HTOLD.out i _ (HB0.out.trans (((Below.refl _ _).drew).mono hz0))).mono ?_); rintro e w3 ⟨rfl, hB3⟩)
        have hb3 : Below W0.heap.size W0 w3 := by simpa using (Below.refl _ _).drew.trans hB3
        refine hK _ _ (fun _ => hb3) ?_
        clear hK K hB3
        refine ordQ_hv rfl rfl rfl (fun K hK => ?_)
        gi_wp2_with (refine And.intro trivial ?_; gi_at_call 89; refine callsIn_wide.2 ((both89 _ _ _ _ _).mono ?_); rintro e w4 ⟨rfl, hB4⟩)
        have hb4 : Below W0.heap.size W0 w4 := hb3.trans (hB4.mono hb3.size)
        refine hK _ _ (fun _ => hb4) ?_
        clear hK K hB4
        have HS4 := Lib.hid (HS0.out.call hb4)
        obtain ⟨s1, s2, s3, s4⟩ := HS4.out.2 i (by omega)
        (refine ordQ_li rfl rfl rfl (fun K hK => ?_); go_simp; refine hK _ ?_; clear hK K)
        refine ordQ_hv rfl rfl rfl (fun K hK => ?_)
        gi_wp2
        refine hK _ _ (fun h => by cases h) ?_
        clear hK K
        refine ordQ_fin ?_
        have HS8 : Hid (SpB ((w4.setCell ⟨S, i * 2, none⟩ (I (max o1 (toldW l i).1))).setCell ⟨S, i * 2 + 1, none⟩ (I (min o2 (toldW l i).2))) S (sl.set i (max o1 (toldW l i).1, min o2 (toldW l i).2))) := Lib.hid (HS4.out.set i (by omega) _ _)
        have hB8 : Below w.heap.size w ((w4.setCell ⟨S, i * 2, none⟩ (I (max o1 (toldW l i).1))).setCell ⟨S, i * 2 + 1, none⟩ (I (min o2 (toldW l i).2))) := ((HB0.out.trans (hb4.mono hz0)).setCell hSw _).setCell hSw _
        clear s1 s2 s3 s4 HS4 hb4 hb3 HCE HX0 HS0 hob HB0
        generalize (w4.setCell ⟨S, i * 2, none⟩ (I (max o1 (toldW l i).1))).setCell ⟨S, i * 2 + 1, none⟩ (I (min o2 (toldW l i).2)) = W8 at *
        obtain ⟨s1, s2, _, _⟩ := HS8.out.2 i (by simp; omega)
        simp only [List.getElem_set_self] at s1 s2
        by_cases hle : max o1 (toldW l i).1 ≤ min o2 (toldW l i).2
        · have hgt : decide (min o2 (toldW l i).2 < max o1 (toldW l i).1) = false := decide_eq_false (by omega)
          have HLE := Lib.hid hle
          clear hle
          go_wp2_with (fail)
          go_quiet (fail)
          go_wp2
          go_roundw
          case rel => exact ⟨i, by omega, by go_num, Lib.hid ⟨below_drewN hB8 _, _, HS8.out.drewN _, by simpa using hsl, HST.out.1 HLE.out, fun j hj => by rw [sF_set (by omega), if_neg (by omega)]; exact HZ.out j (by omega)⟩⟩
          case measure => first | (simp [intOf]; done) | (simp [intOf]; omega)
        · have hgt : decide (min o2 (toldW l i).2 < max o1 (toldW l i).1) = true := decide_eq_true (by omega)
          have HLE := Lib.hid hle
          clear hle
          go_wp2_with (fail)
          go_quiet (fail)
          go_wp2
          go_ret2
          exact ⟨below_drewN hB8 _, .inl ⟨HST.out.2 (by have := HLE.out; omega), rfl⟩⟩
    · obtain rfl : p = 0 := by omega
      have e1 : ((0 : Nat) : Int) - 1 = -1 := rfl
      rw [e1]
      have HB1 : Hid (D3b m l w S 1 wr) := Lib.hid (HA.out.to HOK.out)
      clear HA
      go_wp2_with (fail)
      go_loopw [9] (fun s9 wq => ∃ i : Nat, 1 ≤ i ∧ i ≤ m.length ∧ s9 = I i ∧ Hid (D3b m l w S i wq)) (fun s9 _ => m.length - (intOf s9).toNat)
      case atStart => exact ⟨1, Nat.le_refl _, hn1, rfl, HB1⟩
      case round =>
        clear HB1

        obtain ⟨i, hi1, hi, rfl, HB⟩ := hrel
        by_cases him : i < m.length
        · obtain ⟨hB, sl, s, hsp, hsl, hdn⟩ := HB.out
          have HDN := Lib.hid hdn
          have HSP := Lib.hid hsp
          have hSz := hsp.1
          obtain ⟨q1, q2, _⟩ := par_nat HOK.out hi1 him
          obtain ⟨q, hq⟩ : ∃ q : Nat, parW m i = (q : Int) := ⟨(parW m i).toNat, q1.symm⟩
          have hqi : q < i := by rw [hq] at q2; simpa using q2
          have HBK := Lib.hid (fun (v : Int × Int) (d' : Nat → Int × Int) => back_step (v := v) (d' := d') HOK.out hdn hi1 him)
          rw [hq, Int.toNat_natCast] at HBK
          have bq := hdn.bd HOK.out q (by omega)
          have bi := hdn.bd HOK.out i him
          have hbd : ∀ j, j < m.length → (-2000 ≤ (sF sl j).1 ∧ (sF sl j).1 ≤ 2000) ∧ -2000 ≤ (sF sl j).2 ∧ (sF sl j).2 ≤ 2000 := fun j hj => by have := hdn.bd HOK.out j hj; omega
          have hsb := sumS_bd (m := m) (q : Int) (i : Int) m.length (fun j hj => hbd j hj)
          have HBD := Lib.hid hbd
          obtain ⟨b, o, hAe, hbz, hcs⟩ := HM.out.below hB (by omega)
          subst hAe
          have hc0 := (hcs i him).1
          have hme : m[i].1 = parW m i := by simp [parW, List.getD, him]
          rw [hme, hq] at hc0
          have hqs : q < sl.length := by omega
          have his : i < sl.length := by omega
          obtain ⟨d0c, d1c, _, _⟩ := hsp.2 q hqs
          obtain ⟨s0c, s1c, _, _⟩ := hsp.2 i his
          have hse : sl[q] = sF sl q := by simp [sF, List.getD, hqs]
          have hsi : sl[i] = sF sl i := by simp [sF, List.getD, his]
          rw [hse] at d0c d1c
          rw [hsi] at s0c s1c
          obtain ⟨rs, hrs⟩ : ∃ rs, rs = sumS m (sF sl) (q : Int) (i : Int) m.length := ⟨_, rfl⟩
          have HSU : Hid (∀ W, Below wr.heap.size wr W → Calls Tryd.prog 88 #[.slice (some ⟨b, o, none⟩) m.length c, .slice (some ⟨S, 0, none⟩) m.length m.length, I q, I i] W fun e w' => e = .returned (.agg #[I rs.1, I rs.2]) ∧ Below W.heap.size W w') := Lib.hid fun W hW => by
            rw [hrs]
            exact HSUM.out S q i sl W (hB.trans (hW.mono hB.size)) (hsp.call hW) hsl hbd
          rw [← hrs] at HBK hsb
          clear hrs hcs hme hse hsi hdn hsp hbd HB q1 q2 hq HWELL HTOLD HSUM
          have HCE : Hid (∀ W, Below wr.heap.size wr W → W.cell? ⟨b, o + i * 2, none⟩ = some (I q) ∧ W.cell? ⟨S, q * 2, none⟩ = some (I (sF sl q).1) ∧ W.cell? ⟨S, q * 2 + 1, none⟩ = some (I (sF sl q).2) ∧ W.cell? ⟨S, i * 2, none⟩ = some (I (sF sl i).1) ∧ W.cell? ⟨S, i * 2 + 1, none⟩ = some (I (sF sl i).2)) := Lib.hid fun W hW =>
            ⟨(hW.cell (p := ⟨_, _, none⟩) (Nat.lt_of_lt_of_le hbz hB.size)).trans hc0, (hW.cell (p := ⟨_, _, none⟩) hSz).trans d0c, (hW.cell (p := ⟨_, _, none⟩) hSz).trans d1c, (hW.cell (p := ⟨_, _, none⟩) hSz).trans s0c, (hW.cell (p := ⟨_, _, none⟩) hSz).trans s1c⟩
          clear hc0 d0c d1c s0c s1c
          generalize sF sl q = dd at *
          obtain ⟨d1, d2⟩ := dd
          obtain ⟨r1, r2⟩ := rs
          generalize hss : sF sl i = ss at *
          obtain ⟨s1, s2⟩ := ss
          simp only at HCE HSU HBK hsb bq bi
          have p0 : (0 : Int) ≤ (i : Int) := by omega
          have p1 : (i : Int) < (m.length : Int) := by omega
          have p2 : (0 : Int) ≤ (q : Int) := by omega
          have p3 : (q : Int) < (m.length : Int) := by omega
          have g1 : IntKind.i64.wrap (d1 - r2) = d1 - r2 := IntWalk.i64_in _ (by omega)
          have g2 : IntKind.i64.wrap (d2 - r1) = d2 - r1 := IntWalk.i64_in _ (by omega)
          have HB := Lib.hid hB
          have hz := hB.size
          clear bq bi hsb hB
          go_wp2_with (fail)
          refine (wpIn_wide (n := 9)).1 ?_
          refine wpIn_region_jointL [some 56, some 57, some 58, some 59, some 60, some 61, some 62, some 63, some 64, some 65, some 66, some 67, some 68, some 69, some 70, some 71, some 72, some 10, some 11, none, none] (J14 wr d1 d2 r1 r2 (fun k => [.slice (some ⟨S, 0, none⟩) m.length m.length, .slice (some ⟨b, o, none⟩) m.length c, I i, .pointer (some ⟨b, o + i * 2, none⟩), .pointer (some ⟨b, o + i * 2, none⟩), I q, .pointer (some ⟨S, q * 2, none⟩), .agg #[I d1, I d2], .slice (some ⟨b, o, none⟩) m.length c, .slice (some ⟨S, 0, none⟩) m.length m.length, .slice (some ⟨b, o, none⟩) m.length c, I i, .pointer (some ⟨b, o + i * 2, none⟩), .pointer (some ⟨b, o + i * 2, none⟩), I q, I i, .agg #[I r1, I r2]][k]?)) rfl (by kernel_rfl) (by kernel_rfl) (by kernel_rfl) (fun _ d _ _ _ h => by cases d <;> exact h) (J14.start _ _ _ _ _ _) ?_ ?_
          · refine ⟨?_, ?_, ?_, ?_, ?_, ?_, ?_, ?_, ?_, ?_, ?_, ?_, ?_, ?_, ?_, ?_, ?_, ?_, ?_, ?_, ?_, trivial⟩
            · (intro val l vo W hli hd hJ K hK; have HK := Lib.hid hK; have HD := Lib.hid hd; have HJ := Lib.hid hJ; have HLI := Lib.hid hli; clear hK hd hJ hli; simp only [putD, Act.put, List.setIfInBounds_toArray, List.set_cons_succ, List.set_cons_zero, Nat.zero_add, Nat.reduceAdd] at HK ⊢; refine ⟨rfl, ?_⟩)
              obtain ⟨e0, e1, e2, e3, e4⟩ := HCE.out W HJ.out.1
              gi_wp2
              exact HK.out _ _ (HJ.out.light 0 (by decide) _ (fun u hu => by cases hu; rfl) (Below.refl _ _))
            · (intro val l vo W hli hd hJ K hK; have HK := Lib.hid hK; have HD := Lib.hid hd; have HJ := Lib.hid hJ; have HLI := Lib.hid hli; clear hK hd hJ hli; simp only [putD, Act.put, List.setIfInBounds_toArray, List.set_cons_succ, List.set_cons_zero, Nat.zero_add, Nat.reduceAdd] at HK ⊢; refine ⟨rfl, ?_⟩)
              obtain ⟨e0, e1, e2, e3, e4⟩ := HCE.out W HJ.out.1
              gi_wp2
              exact HK.out _ _ (HJ.out.light 1 (by decide) _ (fun u hu => by cases hu; rfl) (Below.refl _ _))
            · (intro val l vo W hli hd hJ K hK; have HK := Lib.hid hK; have HD := Lib.hid hd; have HJ := Lib.hid hJ; have HLI := Lib.hid hli; clear hK hd hJ hli; simp only [putD, Act.put, List.setIfInBounds_toArray, List.set_cons_succ, List.set_cons_zero, Nat.zero_add, Nat.reduceAdd] at HK ⊢; refine ⟨rfl, ?_⟩)
              obtain ⟨e0, e1, e2, e3, e4⟩ := HCE.out W HJ.out.1
              gi_wp2
              exact HK.out _ _ (HJ.out.light 2 (by decide) _ (fun u hu => by cases hu; rfl) (Below.refl _ _))
            · (intro val l vo W hli hd hJ K hK; have HK := Lib.hid hK; have HD := Lib.hid hd; have HJ := Lib.hid hJ; have HLI := Lib.hid hli; clear hK hd hJ hli; simp only [putD, Act.put, List.setIfInBounds_toArray, List.set_cons_succ, List.set_cons_zero, Nat.zero_add, Nat.reduceAdd] at HK ⊢; refine ⟨rfl, ?_⟩)
              obtain ⟨e0, e1, e2, e3, e4⟩ := HCE.out W HJ.out.1
              have v1 : val 1 = .slice (some ⟨b, o, none⟩) m.length c := (HD.out.1.2).trans (HJ.out.2.1 1 _ HD.out.1.1 rfl)
              have v2 : val 2 = I i := (HD.out.2.1.2).trans (HJ.out.2.1 2 _ HD.out.2.1.1 rfl)
              rw [v1, v2] at HK ⊢
              gi_wp2
              exact HK.out _ _ (HJ.out.light 3 (by decide) _ (fun u hu => by cases hu; rfl) (Below.refl _ _))
            · (intro val l vo W hli hd hJ K hK; have HK := Lib.hid hK; have HD := Lib.hid hd; have HJ := Lib.hid hJ; have HLI := Lib.hid hli; clear hK hd hJ hli; simp only [putD, Act.put, List.setIfInBounds_toArray, List.set_cons_succ, List.set_cons_zero, Nat.zero_add, Nat.reduceAdd] at HK ⊢; refine ⟨rfl, ?_⟩)
              obtain ⟨e0, e1, e2, e3, e4⟩ := HCE.out W HJ.out.1
              have v3 : val 3 = .pointer (some ⟨b, o + i * 2, none⟩) := (HD.out.1.2).trans (HJ.out.2.1 3 _ HD.out.1.1 rfl)
              rw [v3] at HK ⊢
              gi_wp2
              exact HK.out _ _ (HJ.out.light 4 (by decide) _ (fun u hu => by cases hu; rfl) (Below.refl _ _))
            · (intro val l vo W hli hd hJ K hK; have HK := Lib.hid hK; have HD := Lib.hid hd; have HJ := Lib.hid hJ; have HLI := Lib.hid hli; clear hK hd hJ hli; simp only [putD, Act.put, List.setIfInBounds_toArray, List.set_cons_succ, List.set_cons_zero, Nat.zero_add, Nat.reduceAdd] at HK ⊢; refine ⟨rfl, ?_⟩)
              obtain ⟨e0, e1, e2, e3, e4⟩ := HCE.out W HJ.out.1
              have v4 : val 4 = .pointer (some ⟨b, o + i * 2, none⟩) := (HD.out.1.2).trans (HJ.out.2.1 4 _ HD.out.1.1 rfl)
              rw [v4] at HK ⊢
              gi_wp2
              exact HK.out _ _ (HJ.out.light 5 (by decide) _ (fun u hu => by cases hu; rfl) (Below.refl _ _))
            · (intro val l vo W hli hd hJ K hK; have HK := Lib.hid hK; have HD := Lib.hid hd; have HJ := Lib.hid hJ; have HLI := Lib.hid hli; clear hK hd hJ hli; simp only [putD, Act.put, List.setIfInBounds_toArray, List.set_cons_succ, List.set_cons_zero, Nat.zero_add, Nat.reduceAdd] at HK ⊢; refine ⟨rfl, ?_⟩)
              obtain ⟨e0, e1, e2, e3, e4⟩ := HCE.out W HJ.out.1
              have v0 : val 0 = .slice (some ⟨S, 0, none⟩) m.length m.length := (HD.out.1.2).trans (HJ.out.2.1 0 _ HD.out.1.1 rfl)
              have v5 : val 5 = I q := (HD.out.2.1.2).trans (HJ.out.2.1 5 _ HD.out.2.1.1 rfl)
              rw [v0, v5] at HK ⊢
              gi_wp2
              exact HK.out _ _ (HJ.out.light 6 (by decide) _ (fun u hu => by cases hu; rfl) (Below.refl _ _))
            · (intro val l vo W hli hd hJ K hK; have HK := Lib.hid hK; have HD := Lib.hid hd; have HJ := Lib.hid hJ; have HLI := Lib.hid hli; clear hK hd hJ hli; simp only [putD, Act.put, List.setIfInBounds_toArray, List.set_cons_succ, List.set_cons_zero, Nat.zero_add, Nat.reduceAdd] at HK ⊢; refine ⟨rfl, ?_⟩)
              obtain ⟨e0, e1, e2, e3, e4⟩ := HCE.out W HJ.out.1
              have v6 : val 6 = .pointer (some ⟨S, q * 2, none⟩) := (HD.out.1.2).trans (HJ.out.2.1 6 _ HD.out.1.1 rfl)
              rw [v6] at HK ⊢
              gi_wp2
              exact HK.out _ _ (HJ.out.light 7 (by decide) _ (fun u hu => by cases hu; rfl) (Below.refl _ _))
            · (intro val l vo W hli hd hJ K hK; have HK := Lib.hid hK; have HD := Lib.hid hd; have HJ := Lib.hid hJ; have HLI := Lib.hid hli; clear hK hd hJ hli; simp only [putD, Act.put, List.setIfInBounds_toArray, List.set_cons_succ, List.set_cons_zero, Nat.zero_add, Nat.reduceAdd] at HK ⊢; refine ⟨rfl, ?_⟩)
              obtain ⟨e0, e1, e2, e3, e4⟩ := HCE.out W HJ.out.1
              gi_wp2
              exact HK.out _ _ (HJ.out.light 8 (by decide) _ (fun u hu => by cases hu; rfl) (Below.refl _ _))
            · (intro val l vo W hli hd hJ K hK; have HK := Lib.hid hK; have HD := Lib.hid hd; have HJ := Lib.hid hJ; have HLI := Lib.hid hli; clear hK hd hJ hli; simp only [putD, Act.put, List.setIfInBounds_toArray, List.set_cons_succ, List.set_cons_zero, Nat.zero_add, Nat.reduceAdd] at HK ⊢; refine ⟨rfl, ?_⟩)
              obtain ⟨e0, e1, e2, e3, e4⟩ := HCE.out W HJ.out.1
              gi_wp2
              exact HK.out _ _ (HJ.out.light 9 (by decide) _ (fun u hu => by cases hu; rfl) (Below.refl _ _))
            · (intro val l vo W hli hd hJ K hK; have HK := Lib.hid hK; have HD := Lib.hid hd; have HJ := Lib.hid hJ; have HLI := Lib.hid hli; clear hK hd hJ hli; simp only [putD, Act.put, List.setIfInBounds_toArray, List.set_cons_succ, List.set_cons_zero, Nat.zero_add, Nat.reduceAdd] at HK ⊢; refine ⟨rfl, ?_⟩)
              obtain ⟨e0, e1, e2, e3, e4⟩ := HCE.out W HJ.out.1
              gi_wp2
              exact HK.out _ _ (HJ.out.light 10 (by decide) _ (fun u hu => by cases hu; rfl) (Below.refl _ _))
            · (intro val l vo W hli hd hJ K hK; have HK := Lib.hid hK; have HD := Lib.hid hd; have HJ := Lib.hid hJ; have HLI := Lib.hid hli; clear hK hd hJ hli; simp only [putD, Act.put, List.setIfInBounds_toArray, List.set_cons_succ, List.set_cons_zero, Nat.zero_add, Nat.reduceAdd] at HK ⊢; refine ⟨rfl, ?_⟩)
              obtain ⟨e0, e1, e2, e3, e4⟩ := HCE.out W HJ.out.1
              gi_wp2
              exact HK.out _ _ (HJ.out.light 11 (by decide) _ (fun u hu => by cases hu; rfl) (Below.refl _ _))
            · (intro val l vo W hli hd hJ K hK; have HK := Lib.hid hK; have HD := Lib.hid hd; have HJ := Lib.hid hJ; have HLI := Lib.hid hli; clear hK hd hJ hli; simp only [putD, Act.put, List.setIfInBounds_toArray, List.set_cons_succ, List.set_cons_zero, Nat.zero_add, Nat.reduceAdd] at HK ⊢; refine ⟨rfl, ?_⟩)
              obtain ⟨e0, e1, e2, e3, e4⟩ := HCE.out W HJ.out.1
              have v10 : val 10 = .slice (some ⟨b, o, none⟩) m.length c := (HD.out.1.2).trans (HJ.out.2.1 10 _ HD.out.1.1 rfl)
              have v11 : val 11 = I i := (HD.out.2.1.2).trans (HJ.out.2.1 11 _ HD.out.2.1.1 rfl)
              rw [v10, v11] at HK ⊢
              gi_wp2
              exact HK.out _ _ (HJ.out.light 12 (by decide) _ (fun u hu => by cases hu; rfl) (Below.refl _ _))
            · (intro val l vo W hli hd hJ K hK; have HK := Lib.hid hK; have HD := Lib.hid hd; have HJ := Lib.hid hJ; have HLI := Lib.hid hli; clear hK hd hJ hli; simp only [putD, Act.put, List.setIfInBounds_toArray, List.set_cons_succ, List.set_cons_zero, Nat.zero_add, Nat.reduceAdd] at HK ⊢; refine ⟨rfl, ?_⟩)
              obtain ⟨e0, e1, e2, e3, e4⟩ := HCE.out W HJ.out.1
              have v12 : val 12 = .pointer (some ⟨b, o + i * 2, none⟩) := (HD.out.1.2).trans (HJ.out.2.1 12 _ HD.out.1.1 rfl)
              rw [v12] at HK ⊢
              gi_wp2
              exact HK.out _ _ (HJ.out.light 13 (by decide) _ (fun u hu => by cases hu; rfl) (Below.refl _ _))
            · (intro val l vo W hli hd hJ K hK; have HK := Lib.hid hK; have HD := Lib.hid hd; have HJ := Lib.hid hJ; have HLI := Lib.hid hli; clear hK hd hJ hli; simp only [putD, Act.put, List.setIfInBounds_toArray, List.set_cons_succ, List.set_cons_zero, Nat.zero_add, Nat.reduceAdd] at HK ⊢; refine ⟨rfl, ?_⟩)
              obtain ⟨e0, e1, e2, e3, e4⟩ := HCE.out W HJ.out.1
              have v13 : val 13 = .pointer (some ⟨b, o + i * 2, none⟩) := (HD.out.1.2).trans (HJ.out.2.1 13 _ HD.out.1.1 rfl)
              rw [v13] at HK ⊢
              gi_wp2
              exact HK.out _ _ (HJ.out.light 14 (by decide) _ (fun u hu => by cases hu; rfl) (Below.refl _ _))
            · (intro val l vo W hli hd hJ K hK; have HK := Lib.hid hK; have HD := Lib.hid hd; have HJ := Lib.hid hJ; have HLI := Lib.hid hli; clear hK hd hJ hli; simp only [putD, Act.put, List.setIfInBounds_toArray, List.set_cons_succ, List.set_cons_zero, Nat.zero_add, Nat.reduceAdd] at HK ⊢; refine ⟨rfl, ?_⟩)
              obtain ⟨e0, e1, e2, e3, e4⟩ := HCE.out W HJ.out.1
              gi_wp2
              exact HK.out _ _ (HJ.out.light 15 (by decide) _ (fun u hu => by cases hu; rfl) (Below.refl _ _))
            · (intro val l vo W hli hd hJ K hK; have HK := Lib.hid hK; have HD := Lib.hid hd; have HJ := Lib.hid hJ; have HLI := Lib.hid hli; clear hK hd hJ hli; simp only [putD, Act.put, List.setIfInBounds_toArray, List.set_cons_succ, List.set_cons_zero, Nat.zero_add, Nat.reduceAdd] at HK ⊢; refine ⟨rfl, ?_⟩)
              obtain ⟨e0, e1, e2, e3, e4⟩ := HCE.out W HJ.out.1
              have v8 : val 8 = .slice (some ⟨b, o, none⟩) m.length c := (HD.out.1.2).trans (HJ.out.2.1 8 _ HD.out.1.1 rfl)
              have v9 : val 9 = .slice (some ⟨S, 0, none⟩) m.length m.length := (HD.out.2.1.2).trans (HJ.out.2.1 9 _ HD.out.2.1.1 rfl)
              have v14 : val 14 = I q := (HD.out.2.2.1.2).trans (HJ.out.2.1 14 _ HD.out.2.2.1.1 rfl)
              have v15 : val 15 = I i := (HD.out.2.2.2.1.2).trans (HJ.out.2.1 15 _ HD.out.2.2.2.1.1 rfl)
              rw [v8, v9, v14, v15] at HK ⊢
              gi_wp2_with (refine And.intro trivial ?_; gi_at_call 88; refine callsIn_wide.2 ((HSU.out W HJ.out.1).mono ?_); rintro e w3 ⟨rfl, hB3⟩)
              exact HK.out _ _ (HJ.out.light 16 (by decide) _ (fun u hu => by cases hu; rfl) hB3)
            · (intro val l vo W hli hd hJ K hK; have HK := Lib.hid hK; have HD := Lib.hid hd; have HJ := Lib.hid hJ; have HLI := Lib.hid hli; clear hK hd hJ hli; simp only [putD, Act.put, List.setIfInBounds_toArray, List.set_cons_succ, List.set_cons_zero, Nat.zero_add, Nat.reduceAdd] at HK ⊢; refine ⟨rfl, ?_⟩)
              gi_wp2
              exact HK.out _ _ (HJ.out.alloc17 HLI.out)
            · (intro val l vo W hli hd hJ K hK; have HK := Lib.hid hK; have HD := Lib.hid hd; have HJ := Lib.hid hJ; have HLI := Lib.hid hli; clear hK hd hJ hli; simp only [putD, Act.put, List.setIfInBounds_toArray, List.set_cons_succ, List.set_cons_zero, Nat.zero_add, Nat.reduceAdd] at HK ⊢; refine ⟨rfl, ?_⟩)
              gi_wp2
              exact HK.out _ _ (HJ.out.alloc18 HLI.out)
            · (intro val l vo W hli hd hJ K hK; have HK := Lib.hid hK; have HD := Lib.hid hd; have HJ := Lib.hid hJ; have HLI := Lib.hid hli; clear hK hd hJ hli; simp only [putD, Act.put, List.setIfInBounds_toArray, List.set_cons_succ, List.set_cons_zero, Nat.zero_add, Nat.reduceAdd] at HK ⊢; refine ⟨rfl, ?_⟩)
              obtain ⟨h17, v17⟩ := HD.out.1
              obtain ⟨b10, e10, hb10, hx10⟩ := HJ.out.2.2.1 h17
              obtain ⟨h7, v7⟩ := HD.out.2.1
              have e7 : val 7 = .agg #[I d1, I d2] := v7.trans (HJ.out.2.1 7 _ h7 rfl)
              have e17 : val 17 = .pointer (some ⟨b10, 0, none⟩) := v17.trans e10
              rw [HJ.out.not19 HLI.out] at hx10
              obtain ⟨x0, y0⟩ := hx10.at_ 0 _ rfl
              obtain ⟨x1, y1⟩ := hx10.at_ 1 _ rfl
              rw [e7, e17] at HK ⊢
              gi_wp2
              exact HK.out undef _ (HJ.out.store19 HLI.out h17 e10 _)
            · (intro val l vo W hli hd hJ K hK; have HK := Lib.hid hK; have HD := Lib.hid hd; have HJ := Lib.hid hJ; have HLI := Lib.hid hli; clear hK hd hJ hli; simp only [putD, Act.put, List.setIfInBounds_toArray, List.set_cons_succ, List.set_cons_zero, Nat.zero_add, Nat.reduceAdd] at HK ⊢; refine ⟨rfl, ?_⟩)
              obtain ⟨h18, v18⟩ := HD.out.1
              obtain ⟨b11, e11, hb11, hx11⟩ := HJ.out.2.2.2.1 h18
              obtain ⟨h16, v16⟩ := HD.out.2.1
              have e16 : val 16 = .agg #[I r1, I r2] := v16.trans (HJ.out.2.1 16 _ h16 rfl)
              have e18 : val 18 = .pointer (some ⟨b11, 0, none⟩) := v18.trans e11
              rw [HJ.out.not20 HLI.out] at hx11
              obtain ⟨x0, y0⟩ := hx11.at_ 0 _ rfl
              obtain ⟨x1, y1⟩ := hx11.at_ 1 _ rfl
              rw [e16, e18] at HK ⊢
              gi_wp2
              exact HK.out undef _ (HJ.out.store20 HLI.out h18 e11 _)
          · intro lf val W hall hJ
            obtain ⟨b10, b11, e10, e11, hb10, hb11, hx10, hx11, hne, hBJ⟩ := J14.fin hJ (hall 17 (by decide)) (hall 18 (by decide)) (hall 19 (by decide)) (hall 20 (by decide))
            have HX10 := Lib.hid hx10
            have HX11 := Lib.hid hx11
            have HBJ := Lib.hid hBJ
            simp only [putD, Act.put, List.setIfInBounds_toArray, List.set_cons_succ, List.set_cons_zero, Nat.zero_add, Nat.reduceAdd]
            rw [e10, e11]
            clear hJ hall e10 e11 hx10 hx11
            have hzW := hBJ.size
            have HCE2 : Hid (∀ W', Below W.heap.size W W' → W'.cell? ⟨S, i * 2, none⟩ = some (I s1) ∧ W'.cell? ⟨S, i * 2 + 1, none⟩ = some (I s2) ∧ W'.cell? ⟨b10, 0, none⟩ = some (I d1) ∧ W'.cell? ⟨b10, 1, none⟩ = some (I d2) ∧ W'.cell? ⟨b11, 0, none⟩ = some (I r1) ∧ W'.cell? ⟨b11, 1, none⟩ = some (I r2)) := Lib.hid fun W' hW' => by
              obtain ⟨_, _, _, e3, e4⟩ := HCE.out W' (HBJ.out.trans (hW'.mono hzW))
              exact ⟨e3, e4, ((HX10.out.call hW').at_ 0 _ rfl).1, ((HX10.out.call hW').at_ 1 _ rfl).1, ((HX11.out.call hW').at_ 0 _ rfl).1, ((HX11.out.call hW').at_ 1 _ rfl).1⟩
            clear HCE HSU hBJ
            go_wp2
            refine (wpIn_wide (n := 9)).1 ?_
            refine wpIn_region_plan (Plan.ons [0, 1, 2, 3, 4, 5, 6, 7, 8, 9, 10, 11, 12, 13, 14, 15, 16, 17, 18, 19] .fin) [0, 1] (fun W' => Below W.heap.size W W') [19] rfl (by kernel_rfl) (by kernel_rfl) (fun _ d _ _ _ h => by cases d <;> exact h) (Below.refl _ _).drew ?_
            (refine ordQ_held (.slice (some ⟨S, 0, none⟩) m.length m.length) rfl rfl rfl rfl (fun W' hC' => ?_) (fun K hK => ?_); (focus (obtain _ := HCE2.out _ hC'; go_simp; try exact ⟨rfl, rfl⟩)); go_simp; refine hK _ ?_; clear hK K)
            (refine ordQ_held (I i) rfl rfl rfl rfl (fun W' hC' => ?_) (fun K hK => ?_); (focus (obtain _ := HCE2.out _ hC'; go_simp; try exact ⟨rfl, rfl⟩)); go_simp; refine hK _ ?_; clear hK K)
            obtain ⟨k0, k1, k2, k3, k4, k5⟩ := HCE2.out W (Below.refl _ _)
            iterate 15 (refine ordQ_li rfl rfl rfl (fun K hK => ?_); go_simp; refine hK _ ?_; clear hK K)
            refine ordQ_hv rfl rfl rfl (fun K hK => ?_)
            gi_wp2_with (refine And.intro trivial ?_; gi_at_call 89; refine callsIn_wide.2 ((both89 _ _ _ _ _).mono ?_); rintro e w4 ⟨rfl, hB4⟩)
            have hb4 : Below W.heap.size W w4 := by simpa using (Below.refl _ _).drew.trans hB4
            refine hK _ _ (fun _ => hb4) ?_
            clear hK K hB4 k0 k1 k2 k3 k4 k5
            have HS4 := Lib.hid (HSP.out.call (HBJ.out.trans (hb4.mono hzW)))
            obtain ⟨s1', s2', s3', s4'⟩ := HS4.out.2 i (by omega)
            (refine ordQ_li rfl rfl rfl (fun K hK => ?_); go_simp; refine hK _ ?_; clear hK K)
            refine ordQ_hv rfl rfl rfl (fun K hK => ?_)
            gi_wp2
            refine hK _ _ (fun h => by cases h) ?_
            clear hK K
            refine ordQ_fin ?_
            have HS8 : Hid (SpB ((w4.setCell ⟨S, i * 2, none⟩ (I (max s1 (d1 - r2)))).setCell ⟨S, i * 2 + 1, none⟩ (I (min s2 (d2 - r1)))) S (sl.set i (max s1 (d1 - r2), min s2 (d2 - r1)))) := Lib.hid (HS4.out.set i (by omega) _ _)
            have hB8 : Below w.heap.size w ((w4.setCell ⟨S, i * 2, none⟩ (I (max s1 (d1 - r2)))).setCell ⟨S, i * 2 + 1, none⟩ (I (min s2 (d2 - r1)))) := ((HB.out.trans ((HBJ.out.trans (hb4.mono hzW)).mono hz)).setCell hSw _).setCell hSw _
            clear s1' s2' s3' s4' HS4 hb4
            generalize (w4.setCell ⟨S, i * 2, none⟩ (I (max s1 (d1 - r2)))).setCell ⟨S, i * 2 + 1, none⟩ (I (min s2 (d2 - r1))) = W8 at *
            go_wp2
            go_roundw
            case rel => exact ⟨i + 1, by omega, by omega, by go_num, Lib.hid ⟨hB8, _, s, HS8.out, by simpa using hsl, HBK.out (max s1 (d1 - r2), min s2 (d2 - r1)) _ rfl (fun k => sF_set (by omega) _ k)⟩⟩
            case measure => first | (simp [intOf]; done) | (simp [intOf]; omega)
        · obtain rfl : m.length = i := by omega
          obtain ⟨hB, sl, s, hsp, hsl, hdn⟩ := HB.out
          have HF := Lib.hid hdn
          have HSP := Lib.hid hsp
          clear hsp hdn HB
          go_wp2
          go_ret2
          exact ⟨hB, .inr ⟨S, sl, rfl, hSw, HSP.out, hsl, HF.out.spans HOK.out (fun x _ hx => hx)⟩⟩
end Go.Proofs.YtgdilbilhajgaaaDoor
/- The document's errors, Flows and Over. -/
namespace Go.Proofs.YtgdilbilhajgaaaDoor
set_option linter.unusedVariables false
set_option linter.unusedSimpArgs false
open Go Go.RowKit

/-- What the document's errors answers. -/
def Er41 (m : List (Int × Int)) (l : List (Int × Int × Int)) (b : Bool) (w : World) (e : Ending) (w' : World) : Prop :=
  Below w.heap.size w w' ∧ ((¬ InOk m l ∧ e = .returned (.tuple #[nilS, I 1])) ∨ (InOk m l ∧ b = true ∧ e = .returned (.tuple #[nilS, I 2])) ∨ (InOk m l ∧ b = false ∧ (¬ ∃ x, Feas m l x) ∧ e = .returned (.tuple #[nilS, I 6])) ∨
    (InOk m l ∧ b = false ∧ ∃ S sl, e = .returned (.tuple #[.slice (some ⟨S, 0, none⟩) m.length m.length, I 0]) ∧ w.heap.size ≤ S ∧ SpB w' S sl ∧ sl.length = m.length ∧ IsSpans m l (sF sl)))
set_option maxRecDepth 100000 in
set_option maxHeartbeats 4000000 in
theorem errors41 (A B : Option Addr) (c cb : Nat) (m : List (Int × Int)) (l : List (Int × Int × Int)) (b : Bool) (w : World) (hm : Pairs w w.heap.size A m) (hml : m.length ≤ 9223372036854775807) (hl : Threes w w.heap.size B l) (hll : l.length ≤ 9223372036854775807) :
    Calls Tryd.prog 41 #[.slice A m.length c, .slice B l.length cb, .bool b] w (Er41 m l b w) := by
  have HMA : Hid (∀ W, Below w.heap.size w W → Calls Tryd.prog 19 #[.slice A m.length c] W fun e w' => e = .returned (.bool (mOkB m)) ∧ Below W.heap.size W w') := Lib.hid fun W hW => mains19 A c m W ((hm.below hW).more hW.size) hml
  have HRD : Hid (MOk m → ∀ W, Below w.heap.size w W → Calls Tryd.prog 65 #[.slice B l.length cb, I m.length] W fun e w' => e = .returned (.bool (rdsB m.length l)) ∧ Below W.heap.size W w') := Lib.hid fun hok W hW => readings65 B cb m.length l W ((hl.below hW).more hW.size) hll (by have := hok.le; omega)
  have HFL : Hid (MOk m → ∀ W, Below w.heap.size w W → Calls Tryd.prog 66 #[.slice A m.length c, .slice B l.length cb] W (Fl66 m l W)) := Lib.hid fun hok W hW => flows66 A B c cb m l W hok ((hm.below hW).more hW.size) ((hl.below hW).more hW.size) hll
  clear hm hl
  cases h1 : mOkB m
  · have HNO : Hid (¬ InOk m l) := Lib.hid fun h => by rw [mOkB_iff.2 h.1] at h1; cases h1
    rw [h1] at HMA
    clear h1
    go_enter Tryd.func41, Tryd.ntmps41
    go_wp2_with (first
      | (go_at_call 19; refine (HMA.out _ (Below.refl _ _)).mono ?_; rintro e w1 ⟨rfl, hB1⟩)
      | fail)
    go_ret2
    exact ⟨hB1, .inl ⟨HNO.out, rfl⟩⟩
  · have hok := mOkB_iff.1 h1
    rw [h1] at HMA
    have HOK := Lib.hid hok
    clear h1 hok
    cases h2 : rdsB m.length l
    · have HNO : Hid (¬ InOk m l) := Lib.hid fun h => by rw [rdsB_iff.2 h.2] at h2; cases h2
      rw [h2] at HRD
      clear h2
      go_enter Tryd.func41, Tryd.ntmps41
      go_wp2_with (first
        | (go_at_call 19; refine (HMA.out _ (Below.refl _ _)).mono ?_; rintro e w1 ⟨rfl, hB1⟩)
        | (go_at_call 65; refine (HRD.out HOK.out _ hB1).mono ?_; rintro e w2 ⟨rfl, hB2⟩; have hB12 := hB1.trans (hB2.mono hB1.size))
        | fail)
      go_ret2
      exact ⟨hB12, .inl ⟨HNO.out, rfl⟩⟩
    · have HIN : Hid (InOk m l) := Lib.hid ⟨HOK.out, rdsB_iff.1 h2⟩
      rw [h2] at HRD
      clear h2
      cases b
      · go_enter Tryd.func41, Tryd.ntmps41
        go_wp2_with (first
          | (go_at_call 19; refine (HMA.out _ (Below.refl _ _)).mono ?_; rintro e w1 ⟨rfl, hB1⟩)
          | (go_at_call 65; refine (HRD.out HOK.out _ hB1).mono ?_; rintro e w2 ⟨rfl, hB2⟩; have hB12 := hB1.trans (hB2.mono hB1.size))
          | (go_at_call 66; refine (HFL.out HOK.out _ hB12).mono ?_; rintro e w3 ⟨hB3, ⟨hno, rfl⟩ | ⟨S, sl, rfl, hS, hSp, hsl, hsp⟩⟩ <;> (have hB13 := hB12.trans (hB3.mono hB12.size)) <;> first | (have HNF := Lib.hid hno; clear hno) | (have HSP := Lib.hid hSp; have HSS := Lib.hid hsp; clear hSp hsp))
          | fail)
        · go_ret2
          exact ⟨hB13, .inr (.inr (.inl ⟨HIN.out, rfl, HNF.out, rfl⟩))⟩
        · go_ret2
          exact ⟨hB13, .inr (.inr (.inr ⟨HIN.out, rfl, S, sl, rfl, by have := hB12.size; omega, HSP.out, hsl, HSS.out⟩))⟩
      · go_enter Tryd.func41, Tryd.ntmps41
        go_wp2_with (first
          | (go_at_call 19; refine (HMA.out _ (Below.refl _ _)).mono ?_; rintro e w1 ⟨rfl, hB1⟩)
          | (go_at_call 65; refine (HRD.out HOK.out _ hB1).mono ?_; rintro e w2 ⟨rfl, hB2⟩; have hB12 := hB1.trans (hB2.mono hB1.size))
          | fail)
        go_ret2
        exact ⟨hB12, .inr (.inl ⟨HIN.out, rfl, rfl⟩)⟩

/-! What is answered, as one value. -/
open Classical in
noncomputable def spanL (m : List (Int × Int)) (l : List (Int × Int × Int)) : List (Int × Int) := if h : ∃ sl : List (Int × Int), sl.length = m.length ∧ IsSpans m l (sF sl) then h.choose else []
theorem spanL_eq {m : List (Int × Int)} {l : List (Int × Int × Int)} {sl : List (Int × Int)} (hsl : sl.length = m.length) (h : IsSpans m l (sF sl)) : spanL m l = sl := by
  have hex : ∃ sl : List (Int × Int), sl.length = m.length ∧ IsSpans m l (sF sl) := ⟨sl, hsl, h⟩
  unfold spanL
  rw [dif_pos hex]
  obtain ⟨h1, h2⟩ := hex.choose_spec
  exact list_eq_sF (h1.trans hsl.symm) fun i hi => h2.eq h (by omega)
open Classical in
noncomputable def flR (m : List (Int × Int)) (l : List (Int × Int × Int)) : List (Int × Int) × Int := if InOk m l then (if ∃ x, Feas m l x then (spanL m l, 0) else ([], 6)) else ([], 1)
open Classical in
noncomputable def ovR (m : List (Int × Int)) (l : List (Int × Int × Int)) : List Int × List Int × Int := if InOk m l then (if ∃ x, Feas m l x then (surelyL m (sF (spanL m l)), perhapsL m (sF (spanL m l)), 0) else ([], [], 6)) else ([], [], 1)
def FlOut (r : List (Int × Int) × Int) (w : World) (e : Ending) (w' : World) : Prop := ∃ A c, e = .returned (.tuple #[.slice A r.1.length c, I r.2]) ∧ Pairs w' w'.heap.size A r.1 ∧ r.1.length ≤ 100 ∧ Below w.heap.size w w'
def OvOut (r : List Int × List Int × Int) (w : World) (e : Ending) (w' : World) : Prop := ∃ A c A2 c2, e = .returned (.tuple #[.slice A r.1.length c, .slice A2 r.2.1.length c2, I r.2.2]) ∧ Ints w' w'.heap.size A r.1 ∧ Ints w' w'.heap.size A2 r.2.1 ∧ r.1.length ≤ 100 ∧ r.2.1.length ≤ 100 ∧ Below w.heap.size w w'
section
variable {m : List (Int × Int)} {l : List (Int × Int × Int)}
theorem flR_bad (h : ¬ InOk m l) : flR m l = ([], 1) := if_neg h
theorem flR_wrong (h : InOk m l) (h2 : ¬ ∃ x, Feas m l x) : flR m l = ([], 6) := by unfold flR; rw [if_pos h, if_neg h2]
theorem flR_ok (h : InOk m l) {sl : List (Int × Int)} (hsl : sl.length = m.length) (h2 : IsSpans m l (sF sl)) : flR m l = (sl, 0) := by unfold flR; rw [if_pos h, if_pos h2.some, spanL_eq hsl h2]
theorem ovR_bad (h : ¬ InOk m l) : ovR m l = ([], [], 1) := if_neg h
theorem ovR_wrong (h : InOk m l) (h2 : ¬ ∃ x, Feas m l x) : ovR m l = ([], [], 6) := by unfold ovR; rw [if_pos h, if_neg h2]
theorem surelyL_congr {m : List (Int × Int)} {d d' : Nat → Int × Int} (h : ∀ i, i < m.length → d i = d' i) : surelyL m d = surelyL m d' ∧ perhapsL m d = perhapsL m d' := by
  unfold surelyL perhapsL ovL
  constructor
  · congr 1
    exact List.filter_congr fun i hi => by rw [h i (List.mem_range.1 hi)]
  · congr 1
    exact List.filter_congr fun i hi => by rw [h i (List.mem_range.1 hi)]
/-- Spans as a list. -/
theorem IsSpans.list {d : Nat → Int × Int} (h : IsSpans m l d) : ((List.range m.length).map d).length = m.length ∧ IsSpans m l (sF ((List.range m.length).map d)) ∧ ∀ i, i < m.length → sF ((List.range m.length).map d) i = d i := by
  have e : ∀ i, i < m.length → sF ((List.range m.length).map d) i = d i := fun i hi => by simp [sF, List.getD, hi]
  exact ⟨by simp, ⟨h.some, fun x hx i hi => by rw [e i hi]; exact h.sound x hx i hi, fun i hi v h1 h2 => by rw [e i hi] at h1 h2; exact h.full i hi v h1 h2⟩, e⟩
theorem ovR_ok (h : InOk m l) {d : Nat → Int × Int} (h2 : IsSpans m l d) : ovR m l = (surelyL m d, perhapsL m d, 0) := by
  obtain ⟨a, b, e⟩ := h2.list
  unfold ovR
  rw [if_pos h, if_pos h2.some, spanL_eq a b]
  obtain ⟨e1, e2⟩ := surelyL_congr (m := m) e
  rw [e1, e2]
theorem surelyL_le (m : List (Int × Int)) (d : Nat → Int × Int) : (surelyL m d).length ≤ m.length ∧ (perhapsL m d).length ≤ m.length := ⟨ovL_le _ _, ovL_le _ _⟩
theorem FlowsPost.out {w w' : World} {e : Ending} (h : FlowsPost m l w e w') : FlOut (flR m l) w e w' := by
  obtain ⟨hB, ⟨h, rfl⟩ | ⟨h, h2, rfl⟩ | ⟨h, v, sl, rfl, ho, hsl, hsp⟩⟩ := h
  · rw [flR_bad h]; exact ⟨none, 0, rfl, fun h => by simp at h, by simp, hB⟩
  · rw [flR_wrong h h2]; exact ⟨none, 0, rfl, fun h => by simp at h, by simp, hB⟩
  · rw [flR_ok h hsl hsp]
    obtain ⟨A, c, rfl, hp⟩ := pairs_ownN ho hsl
    exact ⟨A, c, rfl, hp, by have := h.1.le; simp only; omega, hB⟩
theorem OverPost.out {w w' : World} {e : Ending} (h : OverPost m l w e w') : OvOut (ovR m l) w e w' := by
  obtain ⟨hB, ⟨h, rfl⟩ | ⟨h, h2, rfl⟩ | ⟨h, v1, v2, d, rfl, o1, o2, _, hsp⟩⟩ := h
  · rw [ovR_bad h]; exact ⟨none, 0, none, 0, rfl, fun h => by simp at h, fun h => by simp at h, by simp, by simp, hB⟩
  · rw [ovR_wrong h h2]; exact ⟨none, 0, none, 0, rfl, fun h => by simp at h, fun h => by simp at h, by simp, by simp, hB⟩
  · rw [ovR_ok h hsp]
    obtain ⟨A, c, rfl, i1⟩ := ints_ownN o1 rfl
    obtain ⟨A2, c2, rfl, i2⟩ := ints_ownN o2 rfl
    have h3 := surelyL_le m d
    have := h.1.le
    exact ⟨A, c, A2, c2, rfl, i1, i2, by simp only; omega, by simp only; omega, hB⟩
end
theorem own_dr {W : World} {base n size : Nat} {e : TypeId} {v : Value} {xs : List Value} (h : W.ownsRow base e size v n xs) (k : Nat) : (W.drewN k).ownsRow base e size v n xs := own_at h (fun _ _ => rfl)
/-- Two rows of one's own, apart; one has grown. -/
theorem two_rows {W w2 : World} {base : Nat} {v1 v2 v' : Value} {y : List Int} {o : Obj} (h2 : W.ownsRow base 3 1 v2 y.length (y.map I)) (hd : ∀ b, v1.ownBlock = some b → v2.ownBlock ≠ some b) (hg : (W.alloc o).grownBy w2 v1.ownBlock)
    (hat : v'.ownBlock = v1.ownBlock ∨ v'.ownBlock = some (W.alloc o).heap.size) : w2.ownsRow base 3 1 v2 y.length (y.map I) ∧ ∀ b, v'.ownBlock = some b → v2.ownBlock ≠ some b := by
  refine ⟨own_at h2 fun g hg2 => ?_, fun b hb hb2 => ?_⟩
  · have hlt := (h2.lt g hg2).2
    rw [hg.block g (by simp; omega) (fun e => hd g e.symm hg2)]
    exact ((Below.refl _ W).alloc (Nat.le_refl _) o).block g hlt
  · rcases hat with e | e
    · exact hd b (e ▸ hb) hb2
    · have hlt := (h2.lt b hb2).2
      rw [hb] at e
      simp at e
      omega
set_option maxRecDepth 100000 in
theorem flows22 (A B : Option Addr) (c cb : Nat) (m : List (Int × Int)) (l : List (Int × Int × Int)) (w : World) (hm : Pairs w w.heap.size A m) (hml : m.length ≤ 9223372036854775807) (hl : Threes w w.heap.size B l) (hll : l.length ≤ 9223372036854775807) :
    Calls Tryd.prog 22 #[.slice A m.length c, .slice B l.length cb] w (FlOut (flR m l) w) := by
  have HE := Lib.hid (errors41 A B c cb m l false w hm hml hl hll)
  clear hm hl
  go_enter Tryd.func22, Tryd.ntmps22
  go_wp2_with (first
    | (go_at_call 41; refine HE.out.mono ?_; rintro e w1 ⟨hB1, ⟨h, rfl⟩ | ⟨_, ht, _⟩ | ⟨h, _, h2, rfl⟩ | ⟨h, _, S, sl, rfl, hS, hSp, hsl, hsp⟩⟩ <;> (try cases ht))
    | fail)
  · go_ret2
    rw [flR_bad h]
    exact ⟨none, 0, rfl, fun h => by simp at h, by simp, hB1⟩
  · go_ret2
    rw [flR_wrong h h2]
    exact ⟨none, 0, rfl, fun h => by simp at h, by simp, hB1⟩
  · go_ret2
    rw [flR_ok h hsl hsp]
    have h16 := h.1.le
    refine ⟨some ⟨S, 0, none⟩, m.length, by rw [hsl]; rfl, hSp.pairs hSp.1, by simp only; omega, hB1⟩

set_option maxRecDepth 100000 in
set_option maxHeartbeats 4000000 in
theorem over24 (A B : Option Addr) (c cb : Nat) (m : List (Int × Int)) (l : List (Int × Int × Int)) (w : World) (hm : Pairs w w.heap.size A m) (hml : m.length ≤ 9223372036854775807) (hl : Threes w w.heap.size B l) (hll : l.length ≤ 9223372036854775807) :
    Calls Tryd.prog 24 #[.slice A m.length c, .slice B l.length cb] w (OvOut (ovR m l) w) := by
  have HE := Lib.hid (errors41 A B c cb m l false w hm hml hl hll)
  have HM := Lib.hid hm
  obtain ⟨i0, hi0, hi1, hi2, hi3⟩ := info_parts info3
  have hu : Tryd.prog.underlying 26 = some (.slice 3) := Tryd.underlying26
  have HU := Lib.hid hu; have HI0 := Lib.hid hi0; have HI1 := Lib.hid hi1; have HI2 := Lib.hid hi2; have HI3 := Lib.hid hi3
  clear hu hi0 hi1 hi2 hi3 hm hl
  go_enter Tryd.func24, Tryd.ntmps24
  go_wp2_with (first
    | (go_at_call 41; refine HE.out.mono ?_; rintro e w1 ⟨hB1, ⟨h, rfl⟩ | ⟨_, ht, _⟩ | ⟨h, _, h2, rfl⟩ | ⟨h, _, S, sl, rfl, hS, hSp, hsl, hsp⟩⟩ <;> (try cases ht) <;> (try have HNO := Lib.hid h) <;> (try have HN2 := Lib.hid h2) <;> (try have HSP := Lib.hid hSp) <;> (try have HSS := Lib.hid hsp) <;> (try clear h2) <;> (try clear hSp hsp))
    | fail)
  · go_ret3
    rw [ovR_bad HNO.out]; exact ⟨none, 0, none, 0, rfl, fun h => by simp at h, fun h => by simp at h, by simp, by simp, hB1⟩
  · go_ret3
    rw [ovR_wrong HNO.out HN2.out]; exact ⟨none, 0, none, 0, rfl, fun h => by simp at h, fun h => by simp at h, by simp, by simp, hB1⟩
  · have hm16 := HNO.out.1.le
    clear h
    have HM1 := Lib.hid (HM.out.below hB1)
    go_loopw [9, 10, 11] (fun s9 s10 s11 wr => ∃ k : Nat, k ≤ m.length ∧ s11 = I k ∧ Below w1.heap.size w1 wr ∧ Hid (wr.ownsRow w1.heap.size 3 1 s9 (ovL (fun i => decide (limW m i < (sF sl i).1)) k).length ((ovL (fun i => decide (limW m i < (sF sl i).1)) k).map I)) ∧
      Hid (wr.ownsRow w1.heap.size 3 1 s10 (ovL (fun i => decide (limW m i < (sF sl i).2)) k).length ((ovL (fun i => decide (limW m i < (sF sl i).2)) k).map I)) ∧ Hid (∀ b, s9.ownBlock = some b → s10.ownBlock ≠ some b)) (fun _ _ s _ => m.length - (intOf s).toNat)
    case atStart => exact ⟨0, Nat.zero_le _, rfl, Below.refl _ _, Lib.hid (World.ownsRow_nil _ _ _ _), Lib.hid (World.ownsRow_nil _ _ _ _), Lib.hid fun b h => by cases h⟩
    case round =>
      obtain ⟨k, hk, rfl, hB, H9, H10, HD⟩ := hrel
      by_cases hlt : k < m.length
      · obtain ⟨ab, ao, hAe, habz, hac⟩ := HM1.out (by omega)
        subst hAe
        have hks : k < sl.length := by omega
        obtain ⟨d0, d1, _, _⟩ := HSP.out.2 k hks
        have hse : sl[k] = sF sl k := by simp [sF, List.getD, hks]
        have hme : m[k].2 = limW m k := by simp [limW, List.getD, hlt]
        have e2 := (hac k hlt).2
        rw [hse] at d0 d1
        rw [hme] at e2
        have l1 := ovL_le (fun i => decide (limW m i < (sF sl i).1)) k
        have l2 := ovL_le (fun i => decide (limW m i < (sF sl i).2)) k
        have HS1 := Lib.hid (ovL_succ (fun i => decide (limW m i < (sF sl i).1)) k)
        have HS2 := Lib.hid (ovL_succ (fun i => decide (limW m i < (sF sl i).2)) k)
        have hSz := HSP.out.1
        have habz2 : ab < w1.heap.size := by have := hB1.size; omega
        have HCE : Hid (∀ W, Below w1.heap.size w1 W → W.cell? ⟨S, k * 2, none⟩ = some (I (sF sl k).1) ∧ W.cell? ⟨S, k * 2 + 1, none⟩ = some (I (sF sl k).2) ∧ W.cell? ⟨ab, ao + k * 2 + 1, none⟩ = some (I (limW m k))) := Lib.hid fun W hW =>
          ⟨(hW.cell (p := ⟨_, _, none⟩) hSz).trans d0, (hW.cell (p := ⟨_, _, none⟩) hSz).trans d1, (hW.cell (p := ⟨_, _, none⟩) habz2).trans e2⟩
        clear d0 d1 e2 hac hse hme hSz habz habz2
        obtain ⟨X, hX⟩ : ∃ X, X = ovL (fun i => decide (limW m i < (sF sl i).1)) (k + 1) := ⟨_, rfl⟩
        obtain ⟨Y, hY⟩ : ∃ Y, Y = ovL (fun i => decide (limW m i < (sF sl i).2)) (k + 1) := ⟨_, rfl⟩
        rw [← hX] at HS1
        rw [← hY] at HS2
        have HX := Lib.hid hX
        have HY := Lib.hid hY
        clear hX hY
        generalize ovL (fun i => decide (limW m i < (sF sl i).1)) k = x at *
        generalize ovL (fun i => decide (limW m i < (sF sl i).2)) k = y at *
        obtain ⟨b1, hb1⟩ : ∃ b, decide (limW m k < (sF sl k).1) = b := ⟨_, rfl⟩
        obtain ⟨b2, hb2⟩ : ∃ b, decide (limW m k < (sF sl k).2) = b := ⟨_, rfl⟩
        simp only [hb1] at HS1
        simp only [hb2] at HS2
        generalize (sF sl k).1 = lo at *
        generalize (sF sl k).2 = hi at *
        generalize limW m k = lm at *
        have p0 : (0 : Int) ≤ (k : Int) := by omega
        have p1 : (k : Int) < (m.length : Int) := by omega
        have hz := hB.size
        obtain ⟨r0, r1, r2⟩ := HCE.out _ hB
        cases b1
        · simp only [Bool.false_eq_true, if_false] at HS1
          go_wp2_with (fail)
          go_quiet (fail)
          have hB0 := below_drewN hB nq
          have G9 := Lib.hid (own_dr H9.out nq)
          have G10 := Lib.hid (own_dr H10.out nq)
          clear r0 r1 r2 H9 H10 hB
          generalize wr.drewN nq = W0 at *
          have hz0 := hB0.size
          go_wp2
          have K9 : Hid (W0.ownsRow w1.heap.size 3 1 u9 X.length (X.map I)) := Lib.hid (by rw [HS1.out]; exact G9.out)
          have K10 := G10
          have KD := HD
          have hB5 := hB0
          clear G9 G10 HD hB0 hz0 HS1
          obtain ⟨r0, r1, r2⟩ := HCE.out _ hB5
          have hz5 := hB5.size
          cases b2
          · simp only [Bool.false_eq_true, if_false] at HS2
            go_quiet (fail)
            have hB6 := below_drewN hB5 nq
            have L9 := Lib.hid (own_dr K9.out nq)
            have L10 := Lib.hid (own_dr K10.out nq)
            clear r0 r1 r2 K9 K10 hB5
            generalize W0.drewN nq = W6 at *
            have hz6 := hB6.size
            go_wp2
            go_roundw
            case rel => exact ⟨k + 1, by omega, by go_num, hB6, Lib.hid (by rw [← HX.out]; exact L9.out), Lib.hid (by rw [← HY.out, HS2.out]; exact L10.out), KD⟩
            case measure => first | (simp [intOf]; done) | (simp [intOf]; omega)
          · simp only [if_true] at HS2
            go_quiet (fail)
            have hB6 := below_drewN hB5 nq
            have L9 := Lib.hid (own_dr K9.out nq)
            have L10 := Lib.hid (own_dr K10.out nq)
            clear r0 r1 r2 K9 K10 hB5
            generalize W0.drewN nq = W6 at *
            have hz6 := hB6.size
            have HW7 := Lib.hid (L10.out.alloc (.cells #[I k] 3))
            have HC7 := Lib.hid (cell_one3 W6 (I k) 3)
            go_wp2_with (first
              | (at_builtin; refine wpList_append_own_at _ rfl _ _ 26 rfl w1.heap.size 3 i0 (I 0) 1 8 HU.out HI0.out HI1.out HI2.out HI3.out rfl (by decide) _ _ _ rfl HW7.out ⟨W6.heap.size, 0, none⟩ 1 1 [I k] rfl rfl HC7.out (by simp [Value.oneCell']) (by simp [maxLen]; omega) (by omega) (by simp; omega) ?_; intro v7 w7 hown7 hgrow7 _ hat7;
                 have hB7 : Below w1.heap.size w1 w7 := (hB6.alloc hz6 _).grown hgrow7 (by simp; omega) (fun g e => (L10.out.lt g e).1); obtain ⟨g9, gd⟩ := two_rows L9.out (fun b h1 h2 => KD.out b h2 h1) hgrow7 hat7; have M10 : Hid (w7.ownsRow w1.heap.size 3 1 v7 Y.length (Y.map I)) := Lib.hid (by rw [HS2.out]; simpa using hown7); have M9 := Lib.hid g9; have MD := Lib.hid gd; clear hown7 hgrow7 hat7 g9 gd)
              | fail)
            go_roundw
            case rel => exact ⟨k + 1, by omega, by go_num, hB7, Lib.hid (by rw [← HX.out]; exact M9.out), Lib.hid (by rw [← HY.out]; exact M10.out), Lib.hid fun b h1 h2 => MD.out b h2 h1⟩
            case measure => first | (simp [intOf]; done) | (simp [intOf]; omega)
        · simp only [if_true] at HS1
          go_wp2_with (fail)
          go_quiet (fail)
          have hB0 := below_drewN hB nq
          have G9 := Lib.hid (own_dr H9.out nq)
          have G10 := Lib.hid (own_dr H10.out nq)
          clear r0 r1 r2 H9 H10 hB
          generalize wr.drewN nq = W0 at *
          have hz0 := hB0.size
          have HW5 := Lib.hid (G9.out.alloc (.cells #[I k] 3))
          have HC5 := Lib.hid (cell_one3 W0 (I k) 3)
          go_wp2_with (first
            | (at_builtin; refine wpList_append_own_at _ rfl _ _ 26 rfl w1.heap.size 3 i0 (I 0) 1 8 HU.out HI0.out HI1.out HI2.out HI3.out rfl (by decide) _ _ _ rfl HW5.out ⟨W0.heap.size, 0, none⟩ 1 1 [I k] rfl rfl HC5.out (by simp [Value.oneCell']) (by simp [maxLen]; omega) (by omega) (by simp; omega) ?_; intro v5 w5 hown5 hgrow5 _ hat5;
               have hB5 : Below w1.heap.size w1 w5 := (hB0.alloc hz0 _).grown hgrow5 (by simp; omega) (fun g e => (G9.out.lt g e).1); obtain ⟨g10, gd⟩ := two_rows G10.out HD.out hgrow5 hat5; have K9 : Hid (w5.ownsRow w1.heap.size 3 1 v5 X.length (X.map I)) := Lib.hid (by rw [HS1.out]; simpa using hown5); have K10 := Lib.hid g10; have KD := Lib.hid gd; clear hown5 hgrow5 hat5 g10 gd)
            | fail)
          clear HW5 HC5 G9 G10 HD hB0 hz0 HS1
          obtain ⟨r0, r1, r2⟩ := HCE.out _ hB5
          have hz5 := hB5.size
          cases b2
          · simp only [Bool.false_eq_true, if_false] at HS2
            go_quiet (fail)
            have hB6 := below_drewN hB5 nq
            have L9 := Lib.hid (own_dr K9.out nq)
            have L10 := Lib.hid (own_dr K10.out nq)
            clear r0 r1 r2 K9 K10 hB5
            generalize w5.drewN nq = W6 at *
            have hz6 := hB6.size
            go_wp2
            go_roundw
            case rel => exact ⟨k + 1, by omega, by go_num, hB6, Lib.hid (by rw [← HX.out]; exact L9.out), Lib.hid (by rw [← HY.out, HS2.out]; exact L10.out), KD⟩
            case measure => first | (simp [intOf]; done) | (simp [intOf]; omega)
          · simp only [if_true] at HS2
            go_quiet (fail)
            have hB6 := below_drewN hB5 nq
            have L9 := Lib.hid (own_dr K9.out nq)
            have L10 := Lib.hid (own_dr K10.out nq)
            clear r0 r1 r2 K9 K10 hB5
            generalize w5.drewN nq = W6 at *
            have hz6 := hB6.size
            have HW7 := Lib.hid (L10.out.alloc (.cells #[I k] 3))
            have HC7 := Lib.hid (cell_one3 W6 (I k) 3)
            go_wp2_with (first
              | (at_builtin; refine wpList_append_own_at _ rfl _ _ 26 rfl w1.heap.size 3 i0 (I 0) 1 8 HU.out HI0.out HI1.out HI2.out HI3.out rfl (by decide) _ _ _ rfl HW7.out ⟨W6.heap.size, 0, none⟩ 1 1 [I k] rfl rfl HC7.out (by simp [Value.oneCell']) (by simp [maxLen]; omega) (by omega) (by simp; omega) ?_; intro v7 w7 hown7 hgrow7 _ hat7;
                 have hB7 : Below w1.heap.size w1 w7 := (hB6.alloc hz6 _).grown hgrow7 (by simp; omega) (fun g e => (L10.out.lt g e).1); obtain ⟨g9, gd⟩ := two_rows L9.out (fun b h1 h2 => KD.out b h2 h1) hgrow7 hat7; have M10 : Hid (w7.ownsRow w1.heap.size 3 1 v7 Y.length (Y.map I)) := Lib.hid (by rw [HS2.out]; simpa using hown7); have M9 := Lib.hid g9; have MD := Lib.hid gd; clear hown7 hgrow7 hat7 g9 gd)
              | fail)
            go_roundw
            case rel => exact ⟨k + 1, by omega, by go_num, hB7, Lib.hid (by rw [← HX.out]; exact M9.out), Lib.hid (by rw [← HY.out]; exact M10.out), Lib.hid fun b h1 h2 => MD.out b h2 h1⟩
            case measure => first | (simp [intOf]; done) | (simp [intOf]; omega)
      · obtain rfl : m.length = k := by omega
        go_wp2
        go_ret3
        rw [ovR_ok HNO.out HSS.out]
        obtain ⟨A1, c1, rfl, i1⟩ := ints_ownN H9.out rfl
        obtain ⟨A2, c2, rfl, i2⟩ := ints_ownN H10.out rfl
        have h3 := surelyL_le m (sF sl)
        exact ⟨A1, c1, A2, c2, rfl, i1, i2, by simp only; omega, by simp only; omega, hB1.trans (hB.mono hB1.size)⟩
end Go.Proofs.YtgdilbilhajgaaaDoor
