/- The iterator of the loads at a post: stand and its closure. -/
import Derived.Test.YtilmlgngnbokfaaB
import Derived.Test.YtilmlgngnbokfaaR
import Derived.Test.YtilmlgngnbokfaaM
import Derived.Test.YtilmlgngnbokfaaPh
import Derived.RangeFuncBox
import Derived.RangeFuncLeaves
import Derived.Shelf.Abstract
import Derived.OwnWalkIn
import Derived.TacticsInMore
import Derived.LoopNIn
import Derived.LoopIn
import Derived.BigQuiet
import Derived.Stop.RegionWithIn
import Derived.Sort.QuietTacIn
namespace Go.Proofs.Ytilmlgngnbokfaa
set_option linter.unusedVariables false
set_option linter.unusedSimpArgs false
open Go.RowKit Go.Shelf
attribute [local go_sem] Oper.semAt_some

set_option maxHeartbeats 1000000 in
theorem stand_in (F : Fence) (n : Nat) (h62 : F.fn 62) (hro : F.round = none) (pd : Value) (l r off : Int) (w : World) :
    CallsIn F n Try.prog 62 #[.agg #[pd, I l, I r], I off] w fun e w' => e = .returned (.func (.func 77) #[] #[.pointer (some ⟨w.heap.size + 1, 0, none⟩), .pointer (some ⟨w.heap.size, 0, none⟩)]) ∧
      w' = (w.alloc (.cells #[pd, I l, I r] 70)).alloc (.cells #[I off] 3) := by
  refine callsIn_of_wp Try.func62 rfl h62 ?_ hro
  simp only [Try.ntmps62, List.size_toArray, List.length_cons, List.length_nil, Nat.reduceAdd, Nat.reduceSub, Array.replicate_succ, Array.replicate_zero, List.push_toArray, List.append_toArray, List.nil_append, List.cons_append]
  gi_wp2
  go_ret
  exact ⟨rfl, rfl⟩

/-- What a round of the loop keeps: all blocks below H but one. -/
def Keeps1 (H Bl : Nat) (W W' : World) : Prop := W.heap.size ≤ W'.heap.size ∧ ∀ b, b < H → b ≠ Bl → W'.heap[b]? = W.heap[b]?

set_option maxRecDepth 100000 in
set_option maxHeartbeats 1000000 in
theorem stand1_in (F : Fence) (n : Nat) (h77 : F.fn 77) (hro : F.round = none) (hn : 1 ≤ n) (ll Bo Bp H Bl bd od : Nat) (l r off wt ap : Int)
    (hBo : Bo < H ∧ Bo ≠ Bl) (hBp : Bp < H ∧ Bp ≠ Bl) (hbd : bd < H ∧ bd ≠ Bl)
    (hl : 0 ≤ l ∧ l ≤ 200) (hr : 0 ≤ r ∧ r ≤ 200) (hoff : 0 ≤ off ∧ off < ap) (hwt : 0 ≤ wt ∧ wt ≤ 500) (hap : 1 ≤ ap ∧ ap ≤ 400)
    (J Jx : List (Int × Int) → World → Prop) (hJd : ∀ s W, J s W → J s W.drew)
    (hY : ∀ pre x W, J pre W → pre.length < 1000 → YieldAt F (n - 1) Try.prog ll #[Rat2 x.1 x.2] W fun e W' =>
      (e = .returned (.bool true) ∧ J (pre ++ [x]) W' ∧ Keeps1 H Bl W W') ∨ (e = .returned (.bool false) ∧ Jx (pre ++ [x]) W'))
    (W : World) (co : W.cell? ⟨Bo, 0, none⟩ = some (I off)) (cp0 : W.cell? ⟨Bp, 0, none⟩ = some (.pointer (some ⟨bd, od, none⟩))) (cp1 : W.cell? ⟨Bp, 1, none⟩ = some (I l)) (cp2 : W.cell? ⟨Bp, 2, none⟩ = some (I r))
    (cd3 : W.cell? ⟨bd, od + 3, none⟩ = some (I wt)) (cd4 : W.cell? ⟨bd, od + 4, none⟩ = some (I ap)) (h0 : J [] W) :
    CallsIn F n Try.prog 77 #[.func (.yield ll) #[] #[], .pointer (some ⟨Bo, 0, none⟩), .pointer (some ⟨Bp, 0, none⟩)] W fun e W' => (∃ v, e = .returned v) ∧
      ((∃ ys, ys = standR l r wt ap off ∧ J ys W') ∨ (∃ pre, pre <+: standR l r wt ap off ∧ Jx pre W')) := by
  refine callsIn_of_wp Try.func77 rfl h77 ?_ hro
  simp only [Try.ntmps77, List.size_toArray, List.length_cons, List.length_nil, Nat.reduceAdd, Nat.reduceSub, Array.replicate_succ, Array.replicate_zero, List.push_toArray, List.append_toArray, List.nil_append, List.cons_append]
  have cells : ∀ wr : World, (∀ b, b < H → b ≠ Bl → wr.heap[b]? = W.heap[b]?) → wr.cell? ⟨Bo, 0, none⟩ = some (I off) ∧ wr.cell? ⟨Bp, 0, none⟩ = some (.pointer (some ⟨bd, od, none⟩)) ∧ wr.cell? ⟨Bp, 1, none⟩ = some (I l) ∧ wr.cell? ⟨Bp, 2, none⟩ = some (I r) ∧ wr.cell? ⟨bd, od + 3, none⟩ = some (I wt) ∧ wr.cell? ⟨bd, od + 4, none⟩ = some (I ap) := fun wr hk =>
    ⟨(World.cell?_of_block (hk _ hBo.1 hBo.2)).trans co, (World.cell?_of_block (hk _ hBp.1 hBp.2)).trans cp0, (World.cell?_of_block (hk _ hBp.1 hBp.2)).trans cp1, (World.cell?_of_block (hk _ hBp.1 hBp.2)).trans cp2, (World.cell?_of_block (hk _ hbd.1 hbd.2)).trans cd3, (World.cell?_of_block (hk _ hbd.1 hbd.2)).trans cd4⟩
  have Cells := Lib.hid cells
  clear cells
  have hA1 : (upsF ap (max 1 l) off).length ≤ 200 := by have := upsF_length hap.1 (bound := max 1 l) off; omega
  gi_wp2
  gi_loopw [4] (fun s wr => ∃ (pre : List Int) (x : Int), s = I x ∧ 0 ≤ x ∧ x ≤ 1000 ∧ Hid (upsF ap (max 1 l) off = pre ++ upsF ap (max 1 l) x) ∧ J (pre.map (fun x => (wt * (max 1 l - x), max 1 l))) wr ∧ Hid (∀ b, b < H → b ≠ Bl → wr.heap[b]? = W.heap[b]?))
    (fun s _ => (2000 - intOf s).toNat)
  case atStart =>
    exact ⟨[], off, rfl, by omega, by omega, Lib.hid rfl, h0, Lib.hid fun _ _ _ => rfl⟩
  case round =>
    obtain ⟨pre, x, rfl, hx0, hx1, hA, hJ, hk⟩ := hrel
    obtain ⟨c1, c2, c3, c4, c5, c6⟩ := Cells.out wr hk.out
    by_cases hx : x < max 1 l
    · have hA2 := hA.out
      rw [upsF_cons hap.1 hx] at hA2
      have hlen : pre.length < 1000 := by
        have := congrArg List.length hA2
        simp at this
        omega
      obtain ⟨fn, tmps, assign, body, hy, hR⟩ := hY (pre.map (fun x => (wt * (max 1 l - x), max 1 l))) (wt * (max 1 l - x), max 1 l) wr.drew (hJd _ _ hJ) (by simpa using hlen)
      have HA := Lib.hid hA2
      clear hA2 hA
      have hR1 := hR.mono (R' := fun e W' => ∃ b, e = .returned (.bool b) ∧ Hid ((b = true ∧ J ((pre ++ [x]).map (fun x => (wt * (max 1 l - x), max 1 l))) W' ∧ Keeps1 H Bl wr W') ∨ (b = false ∧ Jx ((pre ++ [x]).map (fun x => (wt * (max 1 l - x), max 1 l))) W'))) (by
        rintro e W' (⟨rfl, h1, h2⟩ | ⟨rfl, h1⟩)
        · exact ⟨true, rfl, Lib.hid (.inl ⟨rfl, by simpa using h1, h2⟩)⟩
        · exact ⟨false, rfl, Lib.hid (.inr ⟨rfl, by simpa using h1⟩)⟩)
      clear hR
      have hm := mul_bd hwt.1 hwt.2 (show 0 ≤ max 1 l - x by omega) (show max 1 l - x ≤ 200 by omega)
      have hw1 : IntKind.i64.wrap (max 1 l - x) = max 1 l - x := IntWalk.i64_in _ (by omega)
      have hw2 : IntKind.i64.wrap (wt * (max 1 l - x)) = wt * (max 1 l - x) := IntWalk.i64_in _ (by omega)
      by_cases hxl : x < l
      · gi_wp2
        refine wpIn_region_text [0, 1, 2, 3, 4, 5, 6, 7, 8, 9, 10, 11, 12, 13, 14, 15, 16, 17] hro (by kernel_rfl) (by kernel_rfl) (fun _ d _ _ _ h => by cases d <;> exact h) ?_
        iterate 16 (refine ordT_li rfl rfl (fun K hK => ?_); go_simp; refine hK _ ?_; clear hK K)
        (refine ordT_hv rfl rfl rfl (fun K hK => ?_))
        gi_wp2_with (refine hR1.mono ?_; rintro e W3 ⟨b, rfl, hd⟩)
        (refine ordT_li rfl rfl (fun K hK => ?_); go_simp; refine hK _ ?_; clear hK K)
        refine ordT_nil ?_
        rcases hd.out with ⟨rfl, hJ2, hK2⟩ | ⟨rfl, hJx2⟩
        · have hk3 : ∀ b, b < H → b ≠ Bl → W3.heap[b]? = W.heap[b]? := fun b h1 h2 => (hK2.2 b h1 h2).trans (hk.out b h1 h2)
          obtain ⟨e1, e2, e3, e4, e5, e6⟩ := Cells.out W3 hk3
          have HK3 := Lib.hid hk3
          clear hk3 hd hy hR1 hJ
          gi_wp2
          go_roundw
          case rel => exact ⟨pre ++ [x], x + ap, rfl, by omega, by omega, Lib.hid (by rw [HA.out]; simp), hJ2, HK3⟩
          case measure => simp [intOf]; omega
        · gi_wp2
          refine bodyPost_ret (results_none rfl _ _ _) rfl ?_
          refine ⟨⟨_, rfl⟩, .inr ⟨_, ?_, hJx2⟩⟩
          unfold standR
          rw [HA.out]
          exact ⟨(upsF ap (max 1 l) (x + ap)).map (fun x => (wt * (max 1 l - x), max 1 l)) ++ (upsF ap r (ap - off)).map (fun x => (wt * (r - x), r)), by simp⟩
      · have hx0' : ((x : Int) == 0) = true := by simp; omega
        gi_wp2
        refine wpIn_region_text [0, 1, 2, 3, 4, 5, 6, 7, 8, 9, 10, 11, 12, 13, 14, 15, 16, 17] hro (by kernel_rfl) (by kernel_rfl) (fun _ d _ _ _ h => by cases d <;> exact h) ?_
        iterate 16 (refine ordT_li rfl rfl (fun K hK => ?_); go_simp; refine hK _ ?_; clear hK K)
        (refine ordT_hv rfl rfl rfl (fun K hK => ?_))
        gi_wp2_with (refine hR1.mono ?_; rintro e W3 ⟨b, rfl, hd⟩)
        (refine ordT_li rfl rfl (fun K hK => ?_); go_simp; refine hK _ ?_; clear hK K)
        refine ordT_nil ?_
        rcases hd.out with ⟨rfl, hJ2, hK2⟩ | ⟨rfl, hJx2⟩
        · have hk3 : ∀ b, b < H → b ≠ Bl → W3.heap[b]? = W.heap[b]? := fun b h1 h2 => (hK2.2 b h1 h2).trans (hk.out b h1 h2)
          obtain ⟨e1, e2, e3, e4, e5, e6⟩ := Cells.out W3 hk3
          have HK3 := Lib.hid hk3
          clear hk3 hd hy hR1 hJ
          gi_wp2
          go_roundw
          case rel => exact ⟨pre ++ [x], x + ap, rfl, by omega, by omega, Lib.hid (by rw [HA.out]; simp), hJ2, HK3⟩
          case measure => simp [intOf]; omega
        · gi_wp2
          refine bodyPost_ret (results_none rfl _ _ _) rfl ?_
          refine ⟨⟨_, rfl⟩, .inr ⟨_, ?_, hJx2⟩⟩
          unfold standR
          rw [HA.out]
          exact ⟨(upsF ap (max 1 l) (x + ap)).map (fun x => (wt * (max 1 l - x), max 1 l)) ++ (upsF ap r (ap - off)).map (fun x => (wt * (r - x), r)), by simp⟩
    · have hA3 := hA.out
      rw [upsF_nil hx, List.append_nil] at hA3
      have HA3 := Lib.hid hA3
      clear hA3 hA
      have hxl : ¬ x < l := by omega
      have hx0' : ((x : Int) == 0) = false := by simp; omega
      have hA4 : pre.length ≤ 200 := by rw [← HA3.out]; exact hA1
      gi_wp2
      refine wpIn_region_text [0, 1, 2, 3, 4, 5, 6, 7] hro (by kernel_rfl) (by kernel_rfl) (fun _ d _ _ _ h => by cases d <;> exact h) ?_
      have hw4 : IntKind.i64.wrap (ap - off) = ap - off := IntWalk.i64_in _ (by omega)
      iterate 8 (refine ordT_li rfl rfl (fun K hK => ?_); go_simp; refine hK _ ?_; clear hK K)
      refine ordT_nil ?_
      have hJ4 := hJd _ _ hJ
      clear hw4 hJ
      have hB1 : (upsF ap r (ap - off)).length ≤ 200 := by have := upsF_length hap.1 (bound := r) (ap - off); omega
      gi_wp2
      gi_loopw [5] (fun s wr => ∃ (pre2 : List Int) (y : Int), s = I y ∧ 1 ≤ y ∧ y ≤ 1000 ∧ Hid (upsF ap r (ap - off) = pre2 ++ upsF ap r y) ∧ J (pre.map (fun x => (wt * (max 1 l - x), max 1 l)) ++ pre2.map (fun x => (wt * (r - x), r))) wr ∧ Hid (∀ b, b < H → b ≠ Bl → wr.heap[b]? = W.heap[b]?))
        (fun s _ => (2000 - intOf s).toNat)
      case atStart =>
        exact ⟨[], ap - off, rfl, by omega, by omega, Lib.hid rfl, by simpa using hJ4, Lib.hid hk.out⟩
      case round =>
        clear hJ4 c1 c2 c3 c4 c5 c6 hk hx hxl hx0' hx0 hx1
        rename_i wr1
        clear wr1
        obtain ⟨pre2, y, rfl, hy0, hy1, hB, hJ, hk⟩ := hrel
        rename_i wr
        obtain ⟨c1, c2, c3, c4, c5, c6⟩ := Cells.out wr hk.out
        by_cases hx : y < r
        · have hB2 := hB.out
          rw [upsF_cons hap.1 hx] at hB2
          have hlen : pre2.length < 500 := by
            have := congrArg List.length hB2
            simp at this
            omega
          obtain ⟨fn, tmps, assign, body, hy, hR⟩ := hY (pre.map (fun x => (wt * (max 1 l - x), max 1 l)) ++ pre2.map (fun x => (wt * (r - x), r))) (wt * (r - y), r) wr.drew (hJd _ _ hJ) (by simp; omega)
          have HB := Lib.hid hB2
          clear hB2 hB
          have hR1 := hR.mono (R' := fun e W' => ∃ b, e = .returned (.bool b) ∧ Hid ((b = true ∧ J (pre.map (fun x => (wt * (max 1 l - x), max 1 l)) ++ (pre2 ++ [y]).map (fun x => (wt * (r - x), r))) W' ∧ Keeps1 H Bl wr W') ∨ (b = false ∧ Jx (pre.map (fun x => (wt * (max 1 l - x), max 1 l)) ++ (pre2 ++ [y]).map (fun x => (wt * (r - x), r))) W'))) (by
            rintro e W' (⟨rfl, h1, h2⟩ | ⟨rfl, h1⟩)
            · exact ⟨true, rfl, Lib.hid (.inl ⟨rfl, by simpa using h1, h2⟩)⟩
            · exact ⟨false, rfl, Lib.hid (.inr ⟨rfl, by simpa using h1⟩)⟩)
          clear hR
          have hm := mul_bd hwt.1 hwt.2 (show 0 ≤ r - y by omega) (show r - y ≤ 200 by omega)
          have hw1 : IntKind.i64.wrap (r - y) = r - y := IntWalk.i64_in _ (by omega)
          have hw2 : IntKind.i64.wrap (wt * (r - y)) = wt * (r - y) := IntWalk.i64_in _ (by omega)
          gi_wp2
          refine wpIn_region_text [0, 1, 2, 3, 4, 5, 6, 7, 8, 9, 10, 11, 12, 13, 14, 15] hro (by kernel_rfl) (by kernel_rfl) (fun _ d _ _ _ h => by cases d <;> exact h) ?_
          iterate 14 (refine ordT_li rfl rfl (fun K hK => ?_); go_simp; refine hK _ ?_; clear hK K)
          (refine ordT_hv rfl rfl rfl (fun K hK => ?_))
          gi_wp2_with (refine hR1.mono ?_; rintro e W3 ⟨b, rfl, hd⟩)
          (refine ordT_li rfl rfl (fun K hK => ?_); go_simp; refine hK _ ?_; clear hK K)
          refine ordT_nil ?_
          rcases hd.out with ⟨rfl, hJ2, hK2⟩ | ⟨rfl, hJx2⟩
          · have hk3 : ∀ b, b < H → b ≠ Bl → W3.heap[b]? = W.heap[b]? := fun b h1 h2 => (hK2.2 b h1 h2).trans (hk.out b h1 h2)
            obtain ⟨e1, e2, e3, e4, e5, e6⟩ := Cells.out W3 hk3
            have HK3 := Lib.hid hk3
            clear hk3 hd hy hR1 hJ
            gi_wp2
            go_roundw
            case rel => exact ⟨pre2 ++ [y], y + ap, rfl, by omega, by omega, Lib.hid (by rw [HB.out]; simp), hJ2, HK3⟩
            case measure => simp [intOf]; omega
          · gi_wp2
            refine bodyPost_ret (results_none rfl _ _ _) rfl ?_
            refine ⟨⟨_, rfl⟩, .inr ⟨_, ?_, hJx2⟩⟩
            unfold standR
            rw [HA3.out, HB.out]
            exact ⟨(upsF ap r (y + ap)).map (fun x => (wt * (r - x), r)), by simp⟩
        · have hB3 := hB.out
          rw [upsF_nil hx, List.append_nil] at hB3
          have HB3 := Lib.hid hB3
          clear hB3 hB
          gi_wp2
          go_end0
          have hst : standR l r wt ap off = pre.map (fun x => (wt * (max 1 l - x), max 1 l)) ++ pre2.map (fun x => (wt * (r - x), r)) := by unfold standR; rw [HA3.out, HB3.out]
          exact ⟨⟨_, rfl⟩, .inl (hst ▸ hJ)⟩
end Go.Proofs.Ytilmlgngnbokfaa
