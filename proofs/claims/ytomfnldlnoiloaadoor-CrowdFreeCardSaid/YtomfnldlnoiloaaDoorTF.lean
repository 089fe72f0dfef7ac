/- CrowdFree: the walk. Printed by mkTF.py. -/
import Derived.Test.YtomfnldlnoiloaaDoorF2
import Derived.Test.YtomfnldlnoiloaaDoorF3
import Derived.Test.YtomfnldlnoiloaaDoorV7
import Derived.Test.YtomfnldlnoiloaaDoorD7
import Derived.Test.YtomfnldlnoiloaaDoorS11
namespace Go.Proofs.YtomfnldlnoiloaaDoor
set_option linter.unusedVariables false
set_option linter.unusedSimpArgs false
open Go Go.RowKit Go.Maps



theorem info51f : (Tryd.prog.info? 51).map (fun i => (i.zero, i.size, i.bytes)) = some (some (.agg #[I 0, I 0, I 0, I 0]), 4, 32) := by kernel_rfl
theorem err_ok {v v' : Vis} {p m : Int} (h : errN v p m = 0) (hv : VisOk v') (hn : v'.rm.length = v.rm.length) : errN v' p m = 0 := by
  unfold errN at h ⊢
  rw [if_pos (visB_iff.2 hv), hn]
  split at h
  · exact h
  · cases h
theorem vis64 {v : Vis} (hv : VisOk v) : Vis64 v := ⟨by have := hv.n; unfold Vis.n at this; omega, by have := hv.tl; omega, by have := hv.al; omega⟩
theorem lsum_bound {α : Type} {f : α → Int} {c : Int} : ∀ {l : List α}, (∀ x, x ∈ l → 0 ≤ f x ∧ f x ≤ c) → 0 ≤ lsum (l.map f) ∧ lsum (l.map f) ≤ c * l.length
  | [], _ => by simp [lsum]
  | a :: l, h => by
    rw [List.map_cons, lsum_cons, List.length_cons]
    have h1 := h a (by simp)
    have h2 := lsum_bound (f := f) (c := c) (l := l) fun x hx => h x (by simp [hx])
    have h3 : c * ((l.length + 1 : Nat) : Int) = c * (l.length : Int) + c := by push_cast; rw [Int.mul_add, Int.mul_one]
    omega
/-- The sums of a list's first k. -/
theorem sums_of {α : Type} (f : α → Int) (c : Int) (hc : 0 ≤ c) (l : List α) (h : ∀ x, x ∈ l → 0 ≤ f x ∧ f x ≤ c) : ∃ ps : Nat → Int, ps 0 = 0 ∧ (∀ k (hk : k < l.length), ps (k + 1) = ps k + f l[k]) ∧ ps l.length = lsum (l.map f) ∧ ∀ k, k ≤ l.length → 0 ≤ ps k ∧ ps k ≤ c * l.length := by
  refine ⟨fun k => lsum ((l.take k).map f), rfl, fun k hk => ?_, by simp, fun k hk => ?_⟩
  · dsimp only
    rw [List.take_succ_eq_append_getElem hk, List.map_append, lsum_app]
    simp [lsum]
  · have h1 := lsum_bound (f := f) (c := c) (l := l.take k) fun x hx => h x (List.mem_of_mem_take hx)
    rw [List.length_take] at h1
    have h2 : c * ((min k l.length : Nat) : Int) ≤ c * (l.length : Int) := Int.mul_le_mul_of_nonneg_left (by omega) hc
    exact ⟨h1.1, Int.le_trans h1.2 h2⟩
/-- The first k trails have room for all. -/
def trK (l : List Trl) (k : Nat) : List Trl := l.mapIdx fun i x => if i < k then (x.1, x.2.1, x.2.2.1, 1000) else x
theorem trK_len (l : List Trl) (k : Nat) : (trK l k).length = l.length := by simp [trK]
theorem trK_at (l : List Trl) {k : Nat} (h : k < (trK l k).length) (h' : k < l.length) : (trK l k)[k] = l[k] := by simp [trK]
theorem trK_zero (l : List Trl) : trK l 0 = l := by
  apply List.ext_getElem
  · simp [trK]
  · intro i h1 h2
    simp [trK]
theorem trK_set (l : List Trl) {k : Nat} (h : k < l.length) : (trK l k).set k (l[k].1, l[k].2.1, l[k].2.2.1, 1000) = trK l (k + 1) := by
  apply List.ext_getElem
  · simp [trK]
  · intro i h1 h2
    rw [List.getElem_set]
    simp only [trK, List.getElem_mapIdx]
    by_cases e : k = i
    · subst e; simp
    · rw [if_neg e]
      by_cases e2 : i < k
      · rw [if_pos e2, if_pos (by omega)]
      · rw [if_neg e2, if_neg (by omega)]
theorem trK_all (l : List Trl) : trK l l.length = l.map fun x => (x.1, x.2.1, x.2.2.1, (1000 : Int)) := by
  apply List.ext_getElem
  · simp [trK]
  · intro i h1 h2
    have h3 : i < l.length := by simpa [trK] using h1
    simp [trK, h3]
theorem all1000 {rm xs : List Int} (hl : xs.length = rm.length) (h : ∀ j (hj : j < xs.length), j < rm.length → xs[j] = 1000) : xs = rm.map fun _ => 1000 := by
  apply List.ext_getElem
  · simp [hl]
  · intro i h1 h2
    rw [h i h1 (by omega)]
    simp
theorem soon_le (v : Vis) (p k q : Nat) : passes v p k q ≤ 1000 := by
  have := passes_mono v p q k
  unfold soon0 at this
  split at this <;> omega
theorem pass_bound (l : List Trl) {f : Nat → Nat} (h : ∀ q, f q ≤ 1000) (q : Nat) : passT l f q ≤ 1000 := Nat.le_trans (pass_le l f q) (h q)
theorem passT_take (l : List Trl) {j : Nat} (h : j < l.length) (f : Nat → Nat) : passT (l.take (j + 1)) f = relax (passT (l.take j) f) l[j] := by
  unfold passT
  rw [List.take_succ_eq_append_getElem h, List.foldl_append]
  rfl

set_option maxRecDepth 100000 in
set_option maxHeartbeats 16000000 in
theorem free_any (v : Vis) (A1 A2 A3 : Option Addr) (q1 q2 q3 : Nat) (p m : Int) (w : World) (hG : GlobOk w) (hI : VisAt w w.heap.size v A1 A2 A3) (h64 : Vis64 v) (hbig : v.rm.length + v.tr.length + v.ar.length ≤ 1000000000000000) :
    Calls Tryd.prog 6 #[visV v A1 A2 A3 q1 q2 q3, I p, I m] w fun e w' => e = .returned (.bool true) ∧ Below w.heap.size w w' := by
  obtain ⟨w2, hw2⟩ : ∃ w2, w.alloc (.cells #[.slice A1 v.rm.length q1, .slice A2 v.tr.length q2, .slice A3 v.ar.length q3] 26) = w2 := ⟨_, rfl⟩
  have hz2 : w2.heap.size = w.heap.size + 1 := by rw [← hw2]; simp
  have hB2 : Below w.heap.size w w2 := by rw [← hw2]; exact below1 _ _
  have b1 : Box w2 w.heap.size [.slice A1 v.rm.length q1, .slice A2 v.tr.length q2, .slice A3 v.ar.length q3] := by rw [← hw2]; exact Box.new w [.slice A1 v.rm.length q1, .slice A2 v.tr.length q2, .slice A3 v.ar.length q3] 26
  have HX : Hid (∀ W, Below w2.heap.size w2 W → (W.cell? ⟨w.heap.size, 0, none⟩ = some (.slice A1 v.rm.length q1) ∧ W.cell? ⟨w.heap.size, 1, none⟩ = some (.slice A2 v.tr.length q2) ∧ W.cell? ⟨w.heap.size, 2, none⟩ = some (.slice A3 v.ar.length q3)) ∧ VisAt W W.heap.size v A1 A2 A3 ∧ GlobOk W ∧ Below w.heap.size w W) := Lib.hid fun W h => by
    have hb := hB2.trans (h.mono hB2.size)
    exact ⟨⟨((b1.call h).at_ 0 _ rfl).1, ((b1.call h).at_ 1 _ rfl).1, ((b1.call h).at_ 2 _ rfl).1⟩, (hI.below hb).more hb.size, hG.below hb hG.z, hb⟩
  have HB := Lib.hid (Below.refl w2.heap.size w2)
  obtain ⟨⟨x0, x1, x2⟩, _⟩ := HX.out w2 HB.out
  have H12 : Hid (∀ W, Calls Tryd.prog 12 #[visV v A1 A2 A3 q1 q2 q3] W (RetFew (v.rm.length + v.tr.length + v.ar.length ≤ 40) W)) := Lib.hid fun W => great12 v A1 A2 A3 q1 q2 q3 W hbig
  have H13 : Hid (∀ W, GlobOk W → Calls Tryd.prog 13 #[] W fun e w' => e = .returned (.bool true) ∧ Below W.heap.size W w') := Lib.hid alive13
  have H21 : Hid (∀ W, Below w2.heap.size w2 W → Calls Tryd.prog 21 #[visV v A1 A2 A3 q1 q2 q3, I p, I m] W fun e w' => e = .returned (I (errN v p m)) ∧ Below W.heap.size W w') := Lib.hid fun W h => errors21 v h64 A1 A2 A3 q1 q2 q3 p m W (HX.out W h).2.1
  by_cases he : errN v p m = 0
  · by_cases hm30 : (30 : Int) < m
    · rw [he] at H21
      clear b1 hB2 hI hG h64 hbig
      go_enter Tryd.func6, Tryd.ntmps6
      go_wp2_with (first
        | (go_at_call 12; refine (H12.out _).mono ?_; rintro e w3 ⟨b, rfl, hb, hB⟩; replace HB := Lib.hid (HB.out.trans (hB.mono HB.out.size)); clear x0 x1 x2; obtain ⟨⟨x0, x1, x2⟩, _⟩ := HX.out _ HB.out; clear hB hb)
        | (go_at_call 13; refine (H13.out _ (HX.out _ HB.out).2.2.1).mono ?_; rintro e w9 ⟨rfl, hB⟩; replace HB := Lib.hid (HB.out.trans (hB.mono HB.out.size)); clear x0 x1 x2; obtain ⟨⟨x0, x1, x2⟩, _⟩ := HX.out _ HB.out; clear hB)
        | (go_at_call 21; refine (H21.out _ HB.out).mono ?_; rintro e w4 ⟨rfl, hB⟩; replace HB := Lib.hid (HB.out.trans (hB.mono HB.out.size)); clear x0 x1 x2; obtain ⟨⟨x0, x1, x2⟩, _⟩ := HX.out _ HB.out; clear hB)
        | fail)
      all_goals (refine bodyPost_ret (v := .bool true) ?_ rfl ⟨rfl, (HX.out _ HB.out).2.2.2⟩; simp [results, Tryd.results6, go_sem]; done)
    obtain ⟨hv, hp, hm0, hm60⟩ := err_zero he
    obtain ⟨pn, rfl⟩ : ∃ n : Nat, p = n := ⟨p.toNat, by omega⟩
    obtain ⟨mn, rfl⟩ : ∃ n : Nat, m = n := ⟨m.toNat, by omega⟩
    have hpn : pn < v.n := by omega
    have hpn' : pn < v.rm.length := hpn
    have hn := hv.n
    unfold Vis.n at hn
    have htl := hv.tl
    have hal := hv.al
    have HV := Lib.hid hv
    have H16 : Hid (∀ W, Below w2.heap.size w2 W → Calls Tryd.prog 16 #[visV v A1 A2 A3 q1 q2 q3, I pn, I mn] W fun e w' => ∃ val : Int, e = .returned (.tuple #[I val, I 0]) ∧ (∃ R, MostIs v pn mn val R) ∧ Below W.heap.size W w') := Lib.hid fun W h => by
      refine (most16 v h64 A1 A2 A3 q1 q2 q3 pn mn W (HX.out W h).2.1 (HX.out W h).2.2.1).mono ?_
      rintro e w' ⟨val, h1, h2, h3⟩
      rw [he] at h1
      exact ⟨val, h1, h2.1 he, h3⟩
    have H16V : Hid (∀ (v' : Vis) (B1 B2 B3 : Option Addr) (c1 c2 c3 : Nat) W, VisOk v' → v'.rm.length = v.rm.length → VisAt W W.heap.size v' B1 B2 B3 → GlobOk W → Calls Tryd.prog 16 #[visV v' B1 B2 B3 c1 c2 c3, I pn, I mn] W fun e w' => ∃ val : Int, e = .returned (.tuple #[I val, I 0]) ∧ (∃ R, MostIs v' pn mn val R) ∧ Below W.heap.size W w') := Lib.hid fun v' B1 B2 B3 c1 c2 c3 W h1 h2 h3 h4 => by
      have he' := err_ok he h1 h2
      refine (most16 v' (vis64 h1) B1 B2 B3 c1 c2 c3 pn mn W h3 h4).mono ?_
      rintro e w' ⟨val, h5, h6, h7⟩
      rw [he'] at h5
      exact ⟨val, h5, h6.1 he', h7⟩
    rw [he] at H21
    obtain ⟨ps, hp0, hpk, hpe, hpb⟩ := sums_of (fun a : Int × Int × Int => a.2.2) 1000 (by omega) v.ar (fun x hx => (hv.ar x hx).2.2)
    obtain ⟨PP, hPP⟩ : ∃ z, peopleV v = z := ⟨_, rfl⟩
    have hpe' : ps v.ar.length = PP := hpe.trans hPP
    have HPS := Lib.hid (And.intro hp0 (And.intro hpk (And.intro hpe' hpb)))
    have HPP := Lib.hid hPP
    obtain ⟨i0, hi0, hi1, hi2, hi3⟩ := info_parts info3
    obtain ⟨j0, hj0, hj1, hj2, hj3⟩ := info_parts info51f
    clear b1 hB2 hI hG h64 hbig he hp0 hpk hpe hpe' hpb hPP hv
    go_enter Tryd.func6, Tryd.ntmps6
    go_wp2_with (first
      | (go_at_call 12; refine (H12.out _).mono ?_; rintro e w3 ⟨b, rfl, hb, hB⟩; replace HB := Lib.hid (HB.out.trans (hB.mono HB.out.size)); clear x0 x1 x2; obtain ⟨⟨x0, x1, x2⟩, _⟩ := HX.out _ HB.out; clear hB hb)
      | (go_at_call 13; refine (H13.out _ (HX.out _ HB.out).2.2.1).mono ?_; rintro e w9 ⟨rfl, hB⟩; replace HB := Lib.hid (HB.out.trans (hB.mono HB.out.size)); clear x0 x1 x2; obtain ⟨⟨x0, x1, x2⟩, _⟩ := HX.out _ HB.out; clear hB)
      | (go_at_call 21; refine (H21.out _ HB.out).mono ?_; rintro e w4 ⟨rfl, hB⟩; replace HB := Lib.hid (HB.out.trans (hB.mono HB.out.size)); clear x0 x1 x2; obtain ⟨⟨x0, x1, x2⟩, _⟩ := HX.out _ HB.out; clear hB)
      | fail)
    all_goals first | (refine bodyPost_ret (v := .bool true) ?_ rfl ⟨rfl, (HX.out _ HB.out).2.2.2⟩; simp [results, Tryd.results6, go_sem]; done) | skip
    go_loopw [43, 7] (fun i s wr => ∃ (k : Nat) (z : Int), i = I k ∧ k ≤ v.ar.length ∧ s = I z ∧ z = ps k ∧ Hid (Below w2.heap.size w2 wr)) (fun i _ _ => v.ar.length - (intOf i).toNat)
    case atStart => exact ⟨0, 0, rfl, by omega, rfl, HPS.out.1.symm, HB⟩
    case round =>
      obtain ⟨k, z, rfl, hk, rfl, hz, HB1⟩ := hrel
      clear HB x0 x1 x2
      have HB := HB1
      obtain ⟨⟨x0, x1, x2⟩, _⟩ := HX.out _ HB.out
      by_cases hlt : k < v.ar.length
      · obtain ⟨ab, ao, hA, hab, hac⟩ := (HX.out _ HB.out).2.1.ar (by omega)
        subst hA
        obtain ⟨c0, c1, c2⟩ := hac k hlt
        have hzb := HPS.out.2.2.2 k (by omega)
        have hz1 := HPS.out.2.1 k hlt
        rw [← hz] at hz1 hzb
        have hb := (HV.out.ar _ (List.getElem_mem hlt)).2.2
        obtain ⟨a0, ha0⟩ : ∃ x, v.ar[k].1 = x := ⟨_, rfl⟩
        obtain ⟨a1, ha1⟩ : ∃ x, v.ar[k].2.1 = x := ⟨_, rfl⟩
        obtain ⟨a2, ha2⟩ : ∃ x, v.ar[k].2.2 = x := ⟨_, rfl⟩
        rw [ha0] at c0
        rw [ha1] at c1
        rw [ha2] at c2 hb hz1
        have k0 : (0 : Int) ≤ (k : Int) := by omega
        have k1 : (k : Int) < (v.ar.length : Int) := by omega
        have hw1 : IntKind.i64.wrap (z + a2) = z + a2 := IntWalk.i64_in _ (by omega)
        have hw3 : IntKind.i64.wrap ((k : Int) + 1) = (k : Int) + 1 := IntWalk.i64_in _ (by omega)
        clear hac ha0 ha1 ha2 hz
        go_wp2_with (fail)
        go_roundw
        case rel => exact ⟨k + 1, z + a2, by go_num, by omega, rfl, hz1.symm, Lib.hid (HB.out.alloc HB.out.size _)⟩
        case measure => first | (simp [intOf]; done) | (simp [intOf]; omega)
      · have k1 : ¬ (k : Int) < (v.ar.length : Int) := by omega
        obtain rfl : k = v.ar.length := by omega
        rw [HPS.out.2.2.1] at hz
        subst hz
        by_cases hP : (200 : Int) < z
        · go_wp2_with (first
            | (go_at_call 13; refine (H13.out _ (HX.out _ HB.out).2.2.1).mono ?_; rintro e w9 ⟨rfl, hB⟩; replace HB := Lib.hid (HB.out.trans (hB.mono HB.out.size)); clear x0 x1 x2; obtain ⟨⟨x0, x1, x2⟩, _⟩ := HX.out _ HB.out; clear hB)
            | fail)
          all_goals (refine bodyPost_ret (v := .bool true) ?_ rfl ⟨rfl, (HX.out _ HB.out).2.2.2⟩; simp [results, Tryd.results6, go_sem]; done)
        go_upto_region 13 with (first
          | (go_at_call 16; refine (H16.out _ HB.out).mono ?_; rintro e w5 ⟨a, rfl, hM, hB⟩; have HM := Lib.hid hM; replace HB := Lib.hid (HB.out.trans (hB.mono HB.out.size)); clear x0 x1 x2; obtain ⟨⟨x0, x1, x2⟩, _⟩ := HX.out _ HB.out; clear hB hM)
          | fail)
        obtain ⟨w6, hw6⟩ : ∃ x, w5.alloc (.cells #[.slice A1 v.rm.length q1, .slice A2 v.tr.length q2, .slice A3 v.ar.length q3] 26) = x := ⟨_, rfl⟩
        have hB6 : Below w5.heap.size w5 w6 := by rw [← hw6]; exact below1 _ _
        have hz6 : w5.heap.size < w6.heap.size := by rw [← hw6]; simp
        have b6 : Box w6 w5.heap.size [.slice A1 v.rm.length q1, .slice A2 v.tr.length q2, .slice A3 v.ar.length q3] := by rw [← hw6]; exact Box.new w5 [.slice A1 v.rm.length q1, .slice A2 v.tr.length q2, .slice A3 v.ar.length q3] 26
        rw [hw6]
        clear hw6
        have hz5 := HB.out.size
        replace HB := Lib.hid (HB.out.trans (hB6.mono HB.out.size))
        have HB6 := HB
        clear x0 x1 x2
        obtain ⟨⟨x0, x1, x2⟩, hI6, _⟩ := HX.out _ HB.out
        have hB7 : Below w6.heap.size w6 (w6.alloc (.cells #[] 3)) := below1 _ _
        have hro : (w6.alloc (.cells #[] 3)).ownsRow w6.heap.size 3 1 (.slice (some ⟨w6.heap.size, 0, none⟩) 0 0) 0 [] := World.ownsRow_made w6 #[] 0 (Nat.le_refl _) (Nat.zero_le _) (by simp)
        have hrm := ints_at (hI6.rm.below hB7)
        have hx7 := (HX.out _ (HB.out.trans (hB7.mono HB.out.size))).1.1
        clear hI6 x0
        go_wp2_with (first
          | (at_builtin; refine wpList_append_any _ rfl _ _ 22 rfl w6.heap.size 3 i0 (I 0) 1 8 Tryd.underlying22 hi0 hi1 hi2 hi3 rfl (by decide) _ 0 [] rfl hro A1 v.rm.length q1 (v.rm.map I) rfl (by simp) hrm (by simp [Value.oneCell']) (by unfold maxLen; omega) (by omega) hB7.size ?_; intro r1 w7 ho1 hg1; rw [Nat.zero_add, List.nil_append] at ho1; have hB67 : Below w6.heap.size w6 w7 := hB7.grown hg1 hB7.size (fun g e => (hro.lt g e).1); have b7 := b6.call hB67; obtain ⟨g1, d1, rfl, hg1a, hg1b⟩ : ∃ g cap, r1 = .slice (some ⟨g, 0, none⟩) v.rm.length cap ∧ w6.heap.size ≤ g ∧ g < w7.heap.size := (by rcases own_formS ho1 with ⟨_, h2⟩ | ⟨g, cap, h1, h2, h3⟩; (omega); exact ⟨g, cap, h1, h2, h3⟩); obtain ⟨y0, z0⟩ := b7.at_ 0 _ rfl; replace HB := Lib.hid (HB6.out.trans (hB67.mono HB6.out.size)); clear x1 x2; obtain ⟨⟨x0, x1, x2⟩, _⟩ := HX.out _ HB.out; clear hro hrm hg1 b6 hB7 hx7)
          | fail)
        have hb8 := b7.set 0 (.slice (some ⟨g1, 0, none⟩) v.rm.length d1)
        have ho8 : (w7.setCell ⟨w5.heap.size, 0, none⟩ (.slice (some ⟨g1, 0, none⟩) v.rm.length d1)).ownsRow w6.heap.size 3 1 (.slice (some ⟨g1, 0, none⟩) v.rm.length d1) v.rm.length (v.rm.map I) := own_at ho1 fun g hg => Below.heap_setCell _ _ _ _ (by
          have h := (ho1.lt g hg).1
          simp
          omega)
        have HB8 : Hid (Below w2.heap.size w2 (w7.setCell ⟨w5.heap.size, 0, none⟩ (.slice (some ⟨g1, 0, none⟩) v.rm.length d1))) := Lib.hid (HB.out.setCell (p := ⟨w5.heap.size, 0, none⟩) (by dsimp only; omega) _)
        have HBX8 := Lib.hid hb8
        have HO8 := Lib.hid ho8
        clear y0 z0 ho1 b7 hb8 ho8 hB67 HB x0 x1 x2 HB6 hB6
        go_loopw [71] (fun i wr => ∃ (k : Nat) (xs : List Int), i = I k ∧ k ≤ v.rm.length ∧ xs.length = v.rm.length ∧ (∀ j (hj : j < xs.length), j < k → xs[j] = 1000) ∧ Hid (Below w2.heap.size w2 wr) ∧ Hid (Box wr w5.heap.size [.slice (some ⟨g1, 0, none⟩) v.rm.length d1, .slice A2 v.tr.length q2, .slice A3 v.ar.length q3]) ∧ Hid (wr.ownsRow w6.heap.size 3 1 (.slice (some ⟨g1, 0, none⟩) v.rm.length d1) v.rm.length (xs.map I))) (fun i _ => v.rm.length - (intOf i).toNat)
        case atStart => exact ⟨0, v.rm, rfl, by omega, rfl, fun j _ h => (by omega), HB8, HBX8, HO8⟩
        case round =>
          obtain ⟨k, xs, rfl, hk, hxl, hxs, HB, HBX, HO⟩ := hrel
          clear HB8 HBX8 HO8
          obtain ⟨y0, _⟩ := HBX.out.at_ 0 _ rfl
          by_cases hlt : k < v.rm.length
          · have k0 : (0 : Int) ≤ (k : Int) := by omega
            have k1 : (k : Int) < (v.rm.length : Int) := by omega
            have hw3 : IntKind.i64.wrap ((k : Int) + 1) = (k : Int) + 1 := IntWalk.i64_in _ (by omega)
            have hkx : k < xs.length := by omega
            have r5 : wr.cell? ⟨g1, k, none⟩ = some (I xs[k]) := by rw [HO.out.cellAt k (by omega), List.getElem?_map, List.getElem?_eq_getElem hkx]; rfl
            have f5 : wr.frozen? ⟨g1, k, none⟩ = false := HO.out.frozenAt k
            go_wp2_with (fail)
            go_roundw
            case rel =>
              refine ⟨k + 1, xs.set k 1000, by go_num, by omega, by simpa using hxl, fun j hj hjk => ?_, Lib.hid (HB.out.setCell (p := ⟨g1, k, none⟩) (by dsimp only; omega) _), Lib.hid (HBX.out.far (p := ⟨g1, k, none⟩) (by dsimp only; omega) _), Lib.hid (by
                have := (HO.out.stored k (I 1000)).1
                rw [List.map_set]
                exact this)⟩
              rw [List.getElem_set]
              split
              · rfl
              · exact hxs j _ (by omega)
            case measure => first | (simp [intOf]; done) | (simp [intOf]; omega)
          · have k1 : ¬ (k : Int) < (v.rm.length : Int) := by omega
            obtain rfl : k = v.rm.length := by omega
            have hxe := all1000 hxl hxs
            subst hxe
            have HXL : Hid (∀ W, Below wr.heap.size wr W → VisAt W W.heap.size (losV v) (some ⟨g1, 0, none⟩) A2 A3) := Lib.hid fun W h => by
              have hi := (HX.out _ (HB.out.trans (h.mono HB.out.size))).2.1
              exact ⟨((ints_own HO.out).below h).more h.size, hi.tr, hi.ar⟩
            have H16L : Hid (∀ W, Below wr.heap.size wr W → Calls Tryd.prog 16 #[.agg #[.slice (some ⟨g1, 0, none⟩) v.rm.length d1, .slice A2 v.tr.length q2, .slice A3 v.ar.length q3], I pn, I mn] W fun e w' => ∃ val : Int, e = .returned (.tuple #[I val, I 0]) ∧ (∃ R, MostIs (losV v) pn mn val R) ∧ Below W.heap.size W w') := Lib.hid fun W h => by
              have := H16V.out (losV v) (some ⟨g1, 0, none⟩) A2 A3 d1 q2 q3 W (los_ok HV.out) (by simp [losV]) (HXL.out W h) (HX.out _ (HB.out.trans (h.mono HB.out.size))).2.2.1
              simpa [visV, losV] using this
            obtain ⟨⟨x0, x1, x2⟩, _⟩ := HX.out _ HB.out
            obtain ⟨y1, _⟩ := HBX.out.at_ 1 _ rfl
            obtain ⟨y2, _⟩ := HBX.out.at_ 2 _ rfl
            have HBr := Lib.hid (Below.refl wr.heap.size wr)
            have n0 : 0 < v.rm.length := by omega
            go_upto_region 22 with (first
              | (go_at_call 16; refine (H16L.out _ HBr.out).mono ?_; rintro e w9 ⟨bb, rfl, hM, hB⟩; have HM2 := Lib.hid hM; have HB9 := Lib.hid hB; have hlo : (¬ z < a) ∧ (¬ bb < a) ∧ ¬ z < bb := (by obtain ⟨R, h1⟩ := HM.out; obtain ⟨R', h2⟩ := hM; have e1 := most_people HV.out hpn h1; have e2 := (los_le HV.out).most hpn h1 h2; have e3 := most_people (los_ok HV.out) (by rw [los_n]; exact hpn) h2; have e4 := HPP.out; have e5 : peopleV (losV v) = peopleV v := rfl; rw [e5] at e3; omega); obtain ⟨l1, l2, l3⟩ := hlo; replace HB := Lib.hid (HB.out.trans (hB.mono HB.out.size)); clear x0 x1 x2; obtain ⟨⟨x0, x1, x2⟩, _⟩ := HX.out _ HB.out; clear hB hM)
              | fail)
            have b9 := HBX.out.call HB9.out
            have ho9 := grown_own HO.out HB9.out
            have HO9 := Lib.hid ho9
            have hI9 := (HX.out _ HB.out).2.1
            have hz9 := HB9.out.size
            have hgb9 := HBX.out.1
            have hg19 : g1 < wr.heap.size := (HO.out.lt g1 rfl).2
            have hB10 : Below w9.heap.size w9 (w9.alloc (.cells #[] 51)) := below1 _ _
            have hro : (w9.alloc (.cells #[] 51)).ownsRow w9.heap.size 51 4 (.slice (some ⟨w9.heap.size, 0, none⟩) 0 0) 0 [] := World.ownsRow_made w9 #[] 0 (Nat.le_refl _) (Nat.zero_le _) (by simp)
            have hrt := flat4_at (hI9.tr.below hB10)
            have hx10 := (HX.out _ (HB.out.trans (hB10.mono HB.out.size))).1.2.1
            clear hI9 x1 y0 y1 y2 ho9
            have HB9o := HB
            go_wp2_with (first
              | (at_builtin; refine wpList_append_any _ rfl _ _ 23 rfl w9.heap.size 51 j0 (.agg #[I 0, I 0, I 0, I 0]) 4 32 Tryd.underlying23 hj0 hj1 hj2 hj3 rfl (by decide) _ 0 [] rfl hro A2 v.tr.length q2 (flat4 v.tr) rfl (flat4_len _) hrt (flat4_one _) (by unfold maxLen; omega) (by omega) hB10.size ?_; intro r2 w10 ho2 hg2; rw [Nat.zero_add, List.nil_append] at ho2; have hB910 : Below w9.heap.size w9 w10 := hB10.grown hg2 hB10.size (fun g e => (hro.lt g e).1); have b10 := b9.call hB910; obtain ⟨G2, d2, rfl, hG2⟩ : ∃ A cap, r2 = .slice A v.tr.length cap ∧ (0 < v.tr.length → ∃ g, A = some ⟨g, 0, none⟩ ∧ w9.heap.size ≤ g ∧ g < w10.heap.size) := (by rcases own_formS ho2 with ⟨h1, h2⟩ | ⟨g, cap, h1, h2, h3⟩; exact ⟨none, 0, by rw [h1, h2], fun h => (by omega)⟩; exact ⟨_, cap, h1, fun _ => ⟨g, rfl, h2, h3⟩⟩); obtain ⟨y1, z1⟩ := b10.at_ 1 _ rfl; replace HB := Lib.hid (HB9o.out.trans (hB910.mono HB9o.out.size)); clear x0 x2; obtain ⟨⟨x0, x1, x2⟩, _⟩ := HX.out _ HB.out; clear hro hrt hg2 b9 hB10 hx10)
              | fail)
            have hgb : w5.heap.size < w9.heap.size := by omega
            have hb11 := b10.set 1 (.slice G2 v.tr.length d2)
            have ho11 : (w10.setCell ⟨w5.heap.size, 1, none⟩ (.slice G2 v.tr.length d2)).ownsRow w9.heap.size 51 4 (.slice G2 v.tr.length d2) v.tr.length (flat4 (trK v.tr 0)) := by
              rw [trK_zero]
              exact own_at ho2 fun g hg => Below.heap_setCell _ _ _ _ (by
                have h := (ho2.lt g hg).1
                simp
                omega)
            have HF11 : Hid (Frm w9.heap.size (fun x => x = w5.heap.size) w9 (w10.setCell ⟨w5.heap.size, 1, none⟩ (.slice G2 v.tr.length d2))) := Lib.hid (Frm.setCell (S := fun x => x = w5.heap.size) (p := ⟨w5.heap.size, 1, none⟩) (Frm.of_below hB910 (Nat.le_refl _)) (.inr rfl) _)
            have HBX11 := Lib.hid hb11
            have HO11 := Lib.hid ho11
            clear y1 z1 ho2 b10 hb11 ho11 hB910 HB x0 x1 x2
            go_loopw [115] (fun i wr => ∃ k : Nat, i = I k ∧ k ≤ v.tr.length ∧ Hid (Frm w9.heap.size (fun x => x = w5.heap.size) w9 wr) ∧ Hid (Box wr w5.heap.size [.slice (some ⟨g1, 0, none⟩) v.rm.length d1, .slice G2 v.tr.length d2, .slice A3 v.ar.length q3]) ∧ Hid (wr.ownsRow w9.heap.size 51 4 (.slice G2 v.tr.length d2) v.tr.length (flat4 (trK v.tr k)))) (fun i _ => v.tr.length - (intOf i).toNat)
            case atStart => exact ⟨0, rfl, by omega, HF11, HBX11, HO11⟩
            case round =>
              obtain ⟨k, rfl, hk, HF, HBY, HT⟩ := hrel
              clear HF11 HBX11 HO11
              obtain ⟨y1, _⟩ := HBY.out.at_ 1 _ rfl
              by_cases hlt : k < v.tr.length
              · obtain ⟨g2, hGe, hg2a, hg2b⟩ := hG2 (by omega)
                subst hGe
                have k0 : (0 : Int) ≤ (k : Int) := by omega
                have k1 : (k : Int) < (v.tr.length : Int) := by omega
                have hw3 : IntKind.i64.wrap ((k : Int) + 1) = (k : Int) + 1 := IntWalk.i64_in _ (by omega)
                have hkl : k < (trK v.tr k).length := by rw [trK_len]; exact hlt
                have hget := flat4_get (trK v.tr k) k hkl
                have r5 : wr.cell? ⟨g2, k * 4 + 3, none⟩ = some (I (trK v.tr k)[k].2.2.2) := by rw [HT.out.cellAt (k * 4 + 3) (by omega)]; exact hget.2.2.2
                have f5 : wr.frozen? ⟨g2, k * 4 + 3, none⟩ = false := HT.out.frozenAt _
                clear hget
                go_wp2_with (fail)
                go_roundw
                case rel =>
                  refine ⟨k + 1, by go_num, by omega, Lib.hid (HF.out.setCell (p := ⟨g2, k * 4 + 3, none⟩) (.inl hg2a) _), Lib.hid (HBY.out.far (p := ⟨g2, k * 4 + 3, none⟩) (by dsimp only; omega) _), Lib.hid ?_⟩
                  have h1 := (HT.out.stored (k * 4 + 3) (I 1000)).1
                  have h2 := flat4_set (trK v.tr k) k 1000 hkl
                  rw [trK_at v.tr hkl hlt] at h2
                  rw [← h2, trK_set v.tr hlt] at h1
                  exact h1
                case measure => first | (simp [intOf]; done) | (simp [intOf]; omega)
              · have k1 : ¬ (k : Int) < (v.tr.length : Int) := by omega
                obtain rfl : k = v.tr.length := by omega
                rw [trK_all] at HT
                obtain ⟨wq, hwq⟩ : ∃ x, x = wr := ⟨_, rfl⟩
                subst hwq
                replace HB9o := Lib.hid (HB9o.out.trans (HF.out.below (by omega) (fun x hx e => by omega)))
                have HB := HB9o
                have HXA : Hid (∀ W, Below wq.heap.size wq W → VisAt W W.heap.size (allV v) (some ⟨g1, 0, none⟩) G2 A3) := Lib.hid fun W h => by
                  have hi := (HX.out _ (HB.out.trans (h.mono HB.out.size))).2.1
                  have h9 : Ints wq wq.heap.size (some ⟨g1, 0, none⟩) (allV v).rm := fun h0 => by
                    obtain ⟨b', o', e1, e2, e3⟩ := ints_own HO9.out h0
                    have hzz := HF.out.size
                    refine ⟨b', o', e1, by omega, fun j hj => ?_⟩
                    cases e1
                    exact (HF.out.cell (by omega) (by omega)).trans (e3 j hj)
                  have h10 : Fours wq wq.heap.size G2 (allV v).tr := fun h0 => by
                    have h0' : 0 < v.tr.length := by simpa [allV] using h0
                    obtain ⟨g2, hGe, _⟩ := hG2 h0'
                    subst hGe
                    exact fours_own HT.out h0
                  exact ⟨(h9.below h).more h.size, (h10.below h).more h.size, hi.ar⟩
                have H16A : Hid (∀ W, Below wq.heap.size wq W → Calls Tryd.prog 16 #[.agg #[.slice (some ⟨g1, 0, none⟩) v.rm.length d1, .slice G2 v.tr.length d2, .slice A3 v.ar.length q3], I pn, I mn] W fun e w' => ∃ val : Int, e = .returned (.tuple #[I val, I 0]) ∧ (∃ R, MostIs (allV v) pn mn val R) ∧ Below W.heap.size W w') := Lib.hid fun W h => by
                  have := H16V.out (allV v) (some ⟨g1, 0, none⟩) G2 A3 d1 d2 q3 W (all_ok HV.out) (by simp [allV]) (HXA.out W h) (HX.out _ (HB.out.trans (h.mono HB.out.size))).2.2.1
                  simpa [visV, allV] using this
                have HYA : Hid (∀ W, Below wq.heap.size wq W → W.cell? ⟨w5.heap.size, 0, none⟩ = some (.slice (some ⟨g1, 0, none⟩) v.rm.length d1) ∧ W.cell? ⟨w5.heap.size, 1, none⟩ = some (.slice G2 v.tr.length d2) ∧ W.cell? ⟨w5.heap.size, 2, none⟩ = some (.slice A3 v.ar.length q3)) := Lib.hid fun W h =>
                  have hb := HBY.out.call h
                  ⟨(hb.at_ 0 _ rfl).1, (hb.at_ 1 _ rfl).1, (hb.at_ 2 _ rfl).1⟩
                clear y1 HT HBY HF HO9 HXL H16L HBX HO
                obtain ⟨⟨x0, x1, x2⟩, _⟩ := HX.out _ HB.out
                have hmk := fun W => make22z v.rm.length (by omega) W
                go_upto_region 29 with (fail)
                obtain ⟨wS, hwS⟩ : ∃ x, wq.alloc (.cells (zI v.rm.length) 3) = x := ⟨_, rfl⟩
                have HBq := Lib.hid (below1 wq (.cells (zI v.rm.length) 3))
                have bS : Box (wq.alloc (.cells (zI v.rm.length) 3)) wq.heap.size ((thL v.rm.length (fun q => if q < 0 then 1000 else 0)).map I) := by
                  have h := Box.new wq (List.replicate v.rm.length (I 0)) 3
                  have e : (thL v.rm.length (fun q => if q < 0 then (1000 : Int) else 0)).map I = List.replicate v.rm.length (I 0) := by
                    rw [List.map_map]
                    exact (List.map_congr_left (g := fun _ => I 0) fun q _ => by simp).trans (List.map_const'.trans (by rw [List.length_range]))
                  rw [e]
                  exact h
                have HBS := Lib.hid bS
                rw [hwS] at HBq HBS ⊢
                clear hwS bS x0 x1 x2
                go_wp2_with (fail)
                go_loopw [130] (fun i wr => ∃ k : Nat, i = I k ∧ k ≤ v.rm.length ∧ Hid (Below wq.heap.size wq wr) ∧ Hid (Box wr wq.heap.size ((thL v.rm.length (fun q => if q < k then 1000 else 0)).map I))) (fun i _ => v.rm.length - (intOf i).toNat)
                case atStart => exact ⟨0, rfl, by omega, HBq, HBS⟩
                case round =>
                  obtain ⟨k, rfl, hk, HBr, HS⟩ := hrel
                  clear HBq HBS
                  by_cases hlt : k < v.rm.length
                  · have k0 : (0 : Int) ≤ (k : Int) := by omega
                    have k1 : (k : Int) < (v.rm.length : Int) := by omega
                    have hw3 : IntKind.i64.wrap ((k : Int) + 1) = (k : Int) + 1 := IntWalk.i64_in _ (by omega)
                    obtain ⟨r5, f5⟩ := HS.out.at_ k _ (thL_at _ hlt)
                    go_wp2_with (fail)
                    go_roundw
                    case rel =>
                      refine ⟨k + 1, by go_num, by omega, Lib.hid (HBr.out.setCell (p := ⟨wq.heap.size, k, none⟩) (by dsimp only; omega) _), Lib.hid ?_⟩
                      have h := HS.out.set k (I 1000)
                      rw [thL_set, thL_congr (g := fun q => if q < k + 1 then 1000 else 0) (fun q hq => ?_)] at h
                      · exact h
                      · by_cases e : q = k
                        · rw [if_pos e, if_pos (by omega)]
                        · rw [if_neg e]
                          by_cases e2 : q < k
                          · rw [if_pos e2, if_pos (by omega)]
                          · rw [if_neg e2, if_neg (by omega)]
                    case measure => first | (simp [intOf]; done) | (simp [intOf]; omega)
                  · have k1 : ¬ (k : Int) < (v.rm.length : Int) := by omega
                    obtain rfl : k = v.rm.length := by omega
                    have p0 : (0 : Int) ≤ (pn : Int) := by omega
                    have p1 : (pn : Int) < (v.rm.length : Int) := by omega
                    obtain ⟨r5, f5⟩ := HS.out.at_ pn _ (thL_at _ hpn')
                    go_upto_region 35 with (fail)
                    obtain ⟨wP, hwP⟩ : ∃ x, wr.setCell ⟨wq.heap.size, pn, none⟩ (I 0) = x := ⟨_, rfl⟩
                    have HBP := Lib.hid (HBr.out.setCell (p := ⟨wq.heap.size, pn, none⟩) (Nat.le_refl _) (I 0))
                    have hs := HS.out.set pn (I 0)
                    rw [thL_set, thL_congr (g := fun q => ((passes v pn 0 q : Nat) : Int)) (fun q hq => by
                      show _ = ((soon0 pn q : Nat) : Int)
                      unfold soon0
                      by_cases e : q = pn
                      · rw [if_pos e, if_pos e]; rfl
                      · rw [if_neg e, if_neg e, if_pos hq]; rfl)] at hs
                    have HSP := Lib.hid hs
                    rw [hwP] at HBP HSP ⊢
                    clear hwP hs HBr HS r5 f5
                    go_wp2_with (fail)
                    go_loopw [142] (fun i wr => ∃ k : Nat, i = I k ∧ k ≤ v.rm.length ∧ Hid (Below wq.heap.size wq wr) ∧ Hid (Box wr wq.heap.size ((thL v.rm.length (fun q => ((passes v pn k q : Nat) : Int))).map I))) (fun i _ => v.rm.length - (intOf i).toNat)
                    case atStart => exact ⟨0, rfl, by omega, HBP, HSP⟩
                    case round =>
                      obtain ⟨k, rfl, hk, HBr, HS⟩ := hrel
                      clear HBP HSP
                      obtain ⟨wo, hwo⟩ : ∃ x, x = wr := ⟨_, rfl⟩
                      subst hwo
                      replace HB := Lib.hid (HB9o.out.trans (HBr.out.mono HB9o.out.size))
                      obtain ⟨⟨x0, x1, x2⟩, _⟩ := HX.out _ HB.out
                      by_cases hlt : k < v.rm.length
                      · have k0 : (0 : Int) ≤ (k : Int) := by omega
                        have k1 : (k : Int) < (v.rm.length : Int) := by omega
                        have hw3 : IntKind.i64.wrap ((k : Int) + 1) = (k : Int) + 1 := IntWalk.i64_in _ (by omega)
                        obtain ⟨F, hF⟩ : ∃ F, passes v pn k = F := ⟨_, rfl⟩
                        have hFb : ∀ q, F q ≤ 1000 := fun q => by rw [← hF]; exact soon_le v pn k q
                        have hFn : passes v pn (k + 1) = passT v.tr F := by rw [← hF]; rfl
                        have HFB := Lib.hid hFb
                        have HFN := Lib.hid hFn
                        rw [hF] at HS
                        clear hF hFb hFn
                        go_upto_if 148 with (fail)
                        go_loopw [147] (fun i wr => ∃ j : Nat, i = I j ∧ j ≤ v.tr.length ∧ Hid (Below wq.heap.size wq wr) ∧ Hid (Box wr wq.heap.size ((thL v.rm.length (fun q => ((passT (v.tr.take j) F q : Nat) : Int))).map I))) (fun i _ => v.tr.length - (intOf i).toNat)
                        case atStart => exact ⟨0, rfl, by omega, HBr, HS⟩
                        case round =>
                          obtain ⟨j, rfl, hj, HBi, HSi⟩ := hrel
                          clear HBr HS HB x0 x1 x2
                          have HB := Lib.hid (HB9o.out.trans (HBi.out.mono HB9o.out.size))
                          by_cases hjt : j < v.tr.length
                          · obtain ⟨tb, to_, hA, htb, htc⟩ := (HX.out _ HB.out).2.1.tr (by omega)
                            subst hA
                            obtain ⟨c0, c1, c2, c3⟩ := htc j hjt
                            have ht := HV.out.tr _ (List.getElem_mem hjt)
                            unfold Vis.n at ht
                            obtain ⟨fr, hfr⟩ : ∃ x : Nat, v.tr[j].1 = x := ⟨v.tr[j].1.toNat, by omega⟩
                            obtain ⟨tt, htt⟩ : ∃ x : Nat, v.tr[j].2.1 = x := ⟨v.tr[j].2.1.toNat, by omega⟩
                            obtain ⟨dd, hdd⟩ : ∃ x : Nat, v.tr[j].2.2.1 = x := ⟨v.tr[j].2.2.1.toNat, by omega⟩
                            obtain ⟨rr, hrr⟩ : ∃ x, v.tr[j].2.2.2 = x := ⟨_, rfl⟩
                            have HRX : Hid (passT (v.tr.take (j + 1)) F = fun q => if q = fr then min (passT (v.tr.take j) F q) (passT (v.tr.take j) F tt + dd) else passT (v.tr.take j) F q) := Lib.hid (by
                              rw [passT_take v.tr hjt]
                              funext q
                              unfold relax
                              rw [hfr, htt, hdd]
                              simp only [Int.toNat_natCast])
                            rw [hfr, htt, hdd, hrr] at ht
                            rw [hfr] at c0
                            rw [htt] at c1
                            rw [hdd] at c2
                            rw [hrr] at c3
                            obtain ⟨G, hG⟩ : ∃ G, passT (v.tr.take j) F = G := ⟨_, rfl⟩
                            have hGb : ∀ q, G q ≤ 1000 := fun q => by rw [← hG]; exact pass_bound _ HFB.out q
                            rw [hG] at HSi HRX
                            have gb1 := hGb fr
                            have gb2 := hGb tt
                            have hfn : fr < v.rm.length := by omega
                            have htn : tt < v.rm.length := by omega
                            have f0 : (0 : Int) ≤ (fr : Int) := by omega
                            have f1 : (fr : Int) < (v.rm.length : Int) := by omega
                            have t0 : (0 : Int) ≤ (tt : Int) := by omega
                            have t1 : (tt : Int) < (v.rm.length : Int) := by omega
                            have j0' : (0 : Int) ≤ (j : Int) := by omega
                            have j1' : (j : Int) < (v.tr.length : Int) := by omega
                            have hw4 : IntKind.i64.wrap ((j : Int) + 1) = (j : Int) + 1 := IntWalk.i64_in _ (by omega)
                            have hw5 : IntKind.i64.wrap (((G tt : Nat) : Int) + (dd : Int)) = ((G tt : Nat) : Int) + (dd : Int) := IntWalk.i64_in _ (by omega)
                            clear htc hfr htt hdd hrr hG hGb ht
                            go_upto_region 40 with (fail)
                            obtain ⟨wT, hwT⟩ : ∃ x, wr.alloc (.cells #[I fr, I tt, I dd, I rr] 51) = x := ⟨_, rfl⟩
                            have bT : Box wT wr.heap.size [I fr, I tt, I dd, I rr] := by rw [← hwT]; exact Box.new wr [I fr, I tt, I dd, I rr] 51
                            have hBT : Below wr.heap.size wr wT := by rw [← hwT]; exact below1 _ _
                            rw [hwT]
                            clear hwT c0 c1 c2 c3
                            have hST := HSi.out.call hBT
                            obtain ⟨e0, _⟩ := bT.at_ 0 _ rfl
                            obtain ⟨e1, _⟩ := bT.at_ 1 _ rfl
                            obtain ⟨e2, _⟩ := bT.at_ 2 _ rfl
                            obtain ⟨s0, h0⟩ := hST.at_ fr _ (thL_at _ hfn)
                            obtain ⟨s1, _⟩ := hST.at_ tt _ (thL_at _ htn)
                            refine (wpIn_wide (n := 9)).1 ?_
                            refine wpIn_region_plan (Plan.ons [0, 1, 2, 3, 4, 5, 6, 7, 8, 9, 10, 11, 12, 13, 14, 15, 16, 17, 18] .fin) [] (fun _ => True) [] rfl (by kernel_rfl) (by kernel_rfl) (fun _ d _ _ _ h => by cases d <;> exact h) trivial ?_
                            (refine ordQ_li rfl rfl rfl (fun K hK => ?_); go_simp; refine hK _ ?_; clear hK K)
                            (refine ordQ_li rfl rfl rfl (fun K hK => ?_); go_simp; refine hK _ ?_; clear hK K)
                            (refine ordQ_li rfl rfl rfl (fun K hK => ?_); go_simp; refine hK _ ?_; clear hK K)
                            (refine ordQ_li rfl rfl rfl (fun K hK => ?_); go_simp; refine hK _ ?_; clear hK K)
                            (refine ordQ_li rfl rfl rfl (fun K hK => ?_); go_simp; refine hK _ ?_; clear hK K)
                            (refine ordQ_li rfl rfl rfl (fun K hK => ?_); go_simp; refine hK _ ?_; clear hK K)
                            (refine ordQ_li rfl rfl rfl (fun K hK => ?_); go_simp; refine hK _ ?_; clear hK K)
                            (refine ordQ_li rfl rfl rfl (fun K hK => ?_); go_simp; refine hK _ ?_; clear hK K)
                            (refine ordQ_li rfl rfl rfl (fun K hK => ?_); go_simp; refine hK _ ?_; clear hK K)
                            (refine ordQ_li rfl rfl rfl (fun K hK => ?_); go_simp; refine hK _ ?_; clear hK K)
                            (refine ordQ_li rfl rfl rfl (fun K hK => ?_); go_simp; refine hK _ ?_; clear hK K)
                            (refine ordQ_li rfl rfl rfl (fun K hK => ?_); go_simp; refine hK _ ?_; clear hK K)
                            (refine ordQ_li rfl rfl rfl (fun K hK => ?_); go_simp; refine hK _ ?_; clear hK K)
                            (refine ordQ_li rfl rfl rfl (fun K hK => ?_); go_simp; refine hK _ ?_; clear hK K)
                            (refine ordQ_li rfl rfl rfl (fun K hK => ?_); go_simp; refine hK _ ?_; clear hK K)
                            (refine ordQ_li rfl rfl rfl (fun K hK => ?_); go_simp; refine hK _ ?_; clear hK K)
                            (refine ordQ_li rfl rfl rfl (fun K hK => ?_); go_simp; refine hK _ ?_; clear hK K)
                            (refine ordQ_li rfl rfl rfl (fun K hK => ?_); go_simp; refine hK _ ?_; clear hK K)
                            (refine ordQ_hv rfl rfl rfl (fun K hK => ?_); gi_wp2; refine hK _ _ (fun _ => trivial) ?_; clear hK K)
                            refine ordQ_fin ?_
                            go_wp2_with (fail)
                            go_roundw
                            case rel =>
                              refine ⟨j + 1, by go_num, by omega, Lib.hid ((HBi.out.trans (hBT.mono HBi.out.size)).drew.setCell (p := ⟨wq.heap.size, fr, none⟩) (Nat.le_refl _) _), Lib.hid ?_⟩
                              have h := hST.drew.set fr (I (min ((G fr : Nat) : Int) (((G tt : Nat) : Int) + (dd : Int))))
                              rw [thL_set] at h
                              have hcg : (thL v.rm.length fun q => ((passT (v.tr.take (j + 1)) F q : Nat) : Int)) = thL v.rm.length fun q => if q = fr then min ((G fr : Nat) : Int) (((G tt : Nat) : Int) + (dd : Int)) else ((G q : Nat) : Int) := thL_congr fun q hq => by
                                rw [HRX.out]
                                dsimp only
                                by_cases e : q = fr
                                · rw [if_pos e, if_pos e]
                                  subst e
                                  first | omega | (push_cast; omega)
                                · rw [if_neg e, if_neg e]
                              rw [hcg]
                              exact h
                            case measure => first | (simp [intOf]; done) | (simp [intOf]; omega)
                          · have j1' : ¬ (j : Int) < (v.tr.length : Int) := by omega
                            obtain rfl : j = v.tr.length := by omega
                            rw [List.take_length] at HSi
                            go_wp2_with (fail)
                            go_roundw
                            case rel => exact ⟨k + 1, by go_num, by omega, HBi, by rw [HFN.out]; exact HSi⟩
                            case measure => first | (simp [intOf]; done) | (simp [intOf]; omega)
                      · have k1 : ¬ (k : Int) < (v.rm.length : Int) := by omega
                        obtain rfl : k = v.rm.length := by omega
                        have HSN : Hid (∀ W, Below wo.heap.size wo W → ∀ q, q < v.rm.length → W.cell? ⟨wq.heap.size, q, none⟩ = some (I ((soonV v pn q : Nat) : Int))) := Lib.hid fun W h q hq => ((HS.out.call h).at_ q _ (thL_at _ hq)).1
                        have HBo := HBr
                        clear HS HBr
                        obtain ⟨cs, hc0, hck, hce, hcb⟩ := sums_of (fun a : Int × Int × Int => if a.1.toNat + soonV v pn a.2.1.toNat ≤ mn then a.2.2 else 0) 1000 (by omega) v.ar (fun x hx => by have := (HV.out.ar x hx).2.2; split <;> omega)
                        have HCS := Lib.hid (And.intro hc0 (And.intro hck (And.intro (show cs v.ar.length = canV v pn mn from hce) hcb)))
                        clear hc0 hck hce hcb
                        go_wp2_with (fail)
                        go_loopw [174, 21] (fun i s wr => ∃ (k : Nat) (y : Int), i = I k ∧ k ≤ v.ar.length ∧ s = I y ∧ y = cs k ∧ Hid (Below wo.heap.size wo wr)) (fun i _ _ => v.ar.length - (intOf i).toNat)
                        case atStart => exact ⟨0, 0, rfl, by omega, rfl, HCS.out.1.symm, Lib.hid (Below.refl _ _)⟩
                        case round =>
                          obtain ⟨k, y, rfl, hk, rfl, hy, HBr⟩ := hrel
                          clear HB x0 x1 x2
                          have HBq := Lib.hid (HBo.out.trans (HBr.out.mono HBo.out.size))
                          have HB := Lib.hid (HB9o.out.trans (HBq.out.mono HB9o.out.size))
                          by_cases hlt : k < v.ar.length
                          · obtain ⟨ab, ao, hA, hab, hac⟩ := (HX.out _ HB.out).2.1.ar (by omega)
                            subst hA
                            obtain ⟨c0, c1, c2⟩ := hac k hlt
                            have hyb := HCS.out.2.2.2 k (by omega)
                            have hy1 : cs (k + 1) = cs k + (if v.ar[k].1.toNat + soonV v pn v.ar[k].2.1.toNat ≤ mn then v.ar[k].2.2 else 0) := HCS.out.2.1 k hlt
                            rw [← hy] at hy1 hyb
                            have hb := HV.out.ar _ (List.getElem_mem hlt)
                            unfold Vis.n at hb
                            obtain ⟨a0, ha0⟩ : ∃ x : Nat, v.ar[k].1 = x := ⟨v.ar[k].1.toNat, by omega⟩
                            obtain ⟨a1, ha1⟩ : ∃ x : Nat, v.ar[k].2.1 = x := ⟨v.ar[k].2.1.toNat, by omega⟩
                            obtain ⟨a2, ha2⟩ : ∃ x, v.ar[k].2.2 = x := ⟨_, rfl⟩
                            rw [ha0, ha1, ha2] at hb
                            rw [ha0] at c0
                            rw [ha1] at c1
                            rw [ha2] at c2
                            have han : a1 < v.rm.length := by omega
                            have hsb := soon_le v pn v.n a1
                            have hsc := HSN.out wr HBr.out a1 han
                            have hsd : passes v pn v.n a1 = soonV v pn a1 := rfl
                            rw [hsd] at hsb
                            obtain ⟨sn, hsn⟩ : ∃ x, soonV v pn a1 = x := ⟨_, rfl⟩
                            have HSNV := Lib.hid hsn
                            rw [hsn] at hsb hsc
                            have hcond : (v.ar[k].1.toNat + soonV v pn v.ar[k].2.1.toNat ≤ mn) ↔ a0 + sn ≤ mn := by rw [ha0, ha1, Int.toNat_natCast, Int.toNat_natCast, hsn]
                            have HY : Hid ((a0 + sn ≤ mn → y + a2 = cs (k + 1)) ∧ (¬ a0 + sn ≤ mn → y = cs (k + 1))) := Lib.hid ⟨fun h => by rw [hy1, if_pos (hcond.2 h), ha2], fun h => by rw [hy1, if_neg (fun h' => h (hcond.1 h')), Int.add_zero]⟩
                            clear hsn hcond hy1
                            clear hsd
                            have k0 : (0 : Int) ≤ (k : Int) := by omega
                            have k1 : (k : Int) < (v.ar.length : Int) := by omega
                            have q0 : (0 : Int) ≤ (a1 : Int) := by omega
                            have q1' : (a1 : Int) < (v.rm.length : Int) := by omega
                            have hw3 : IntKind.i64.wrap ((k : Int) + 1) = (k : Int) + 1 := IntWalk.i64_in _ (by omega)
                            have hw4 : IntKind.i64.wrap ((a0 : Int) + (sn : Int)) = (a0 : Int) + (sn : Int) := IntWalk.i64_in _ (by omega)
                            have hw5 : IntKind.i64.wrap (y + a2) = y + a2 := IntWalk.i64_in _ (by omega)
                            clear hac ha0 ha1 ha2 hy
                            go_upto_region 47 with (fail)
                            obtain ⟨wT, hwT⟩ : ∃ x, wr.alloc (.cells #[I a0, I a1, I a2] 49) = x := ⟨_, rfl⟩
                            have bT : Box wT wr.heap.size [I a0, I a1, I a2] := by rw [← hwT]; exact Box.new wr [I a0, I a1, I a2] 49
                            have hBT : Below wr.heap.size wr wT := by rw [← hwT]; exact below1 _ _
                            have hscT := HSN.out wT (HBr.out.trans (hBT.mono HBr.out.size)) a1 han
                            rw [HSNV.out] at hscT
                            rw [hwT]
                            clear hwT c0 c1 c2 hsc
                            obtain ⟨e0, _⟩ := bT.at_ 0 _ rfl
                            obtain ⟨e1, _⟩ := bT.at_ 1 _ rfl
                            obtain ⟨e2, _⟩ := bT.at_ 2 _ rfl
                            have HBT := Lib.hid (HBr.out.trans (hBT.mono HBr.out.size)).drew
                            refine (wpIn_wide (n := 9)).1 ?_
                            refine wpIn_region_plan (Plan.ons [0, 1, 2, 3, 4, 5, 6, 7, 8, 9] .fin) [] (fun _ => True) [] rfl (by kernel_rfl) (by kernel_rfl) (fun _ d _ _ _ h => by cases d <;> exact h) trivial ?_
                            (refine ordQ_li rfl rfl rfl (fun K hK => ?_); go_simp; refine hK _ ?_; clear hK K)
                            (refine ordQ_li rfl rfl rfl (fun K hK => ?_); go_simp; refine hK _ ?_; clear hK K)
                            (refine ordQ_li rfl rfl rfl (fun K hK => ?_); go_simp; refine hK _ ?_; clear hK K)
                            (refine ordQ_li rfl rfl rfl (fun K hK => ?_); go_simp; refine hK _ ?_; clear hK K)
                            (refine ordQ_li rfl rfl rfl (fun K hK => ?_); go_simp; refine hK _ ?_; clear hK K)
                            (refine ordQ_li rfl rfl rfl (fun K hK => ?_); go_simp; refine hK _ ?_; clear hK K)
                            (refine ordQ_li rfl rfl rfl (fun K hK => ?_); go_simp; refine hK _ ?_; clear hK K)
                            (refine ordQ_li rfl rfl rfl (fun K hK => ?_); go_simp; refine hK _ ?_; clear hK K)
                            (refine ordQ_li rfl rfl rfl (fun K hK => ?_); go_simp; refine hK _ ?_; clear hK K)
                            (refine ordQ_li rfl rfl rfl (fun K hK => ?_); go_simp; refine hK _ ?_; clear hK K)
                            refine ordQ_fin ?_
                            by_cases hcan : a0 + sn ≤ mn
                            · have hci : (a0 : Int) + (sn : Int) ≤ (mn : Int) := by omega
                              go_wp2_with (fail)
                              go_roundw
                              case rel => exact ⟨k + 1, y + a2, by go_num, by omega, rfl, HY.out.1 hcan, HBT⟩
                              case measure => first | (simp [intOf]; done) | (simp [intOf]; omega)
                            · have hci : ¬ (a0 : Int) + (sn : Int) ≤ (mn : Int) := by omega
                              go_wp2_with (fail)
                              go_roundw
                              case rel => exact ⟨k + 1, y, by go_num, by omega, rfl, HY.out.2 hcan, HBT⟩
                              case measure => first | (simp [intOf]; done) | (simp [intOf]; omega)
                          · have k1 : ¬ (k : Int) < (v.ar.length : Int) := by omega
                            obtain rfl : k = v.ar.length := by omega
                            rw [HCS.out.2.2.1] at hy
                            obtain ⟨x0, x1, x2⟩ := HYA.out _ HBq.out
                            go_wp2_with (first
                              | (go_at_call 16; refine (H16A.out _ HBq.out).mono ?_; rintro e w12 ⟨cc, rfl, hM, hB⟩; have hlo : cc = y ∧ bb ≤ y := (by obtain ⟨R, h1⟩ := HM.out; obtain ⟨R', h2⟩ := HM2.out; obtain ⟨R'', h3⟩ := hM; have hx := HPP.out; have := free_law HV.out hpn (m := mn) (by omega) (by omega) h1 h2 h3; rw [← hy] at this; exact ⟨this.2.2.2.1, this.2.2.2.2⟩); obtain ⟨l4, l5⟩ := hlo; subst l4; replace HB := Lib.hid (HB.out.trans (hB.mono HB.out.size)); clear hB hM x0 x1 x2; obtain ⟨⟨x0, x1, x2⟩, _⟩ := HX.out _ HB.out)
                              | (go_at_call 13; refine (H13.out _ (HX.out _ HB.out).2.2.1).mono ?_; rintro e w9 ⟨rfl, hB⟩; replace HB := Lib.hid (HB.out.trans (hB.mono HB.out.size)); clear x0 x1 x2; obtain ⟨⟨x0, x1, x2⟩, _⟩ := HX.out _ HB.out; clear hB)
                              | fail)
                            all_goals (refine bodyPost_ret (v := .bool true) ?_ rfl ⟨rfl, (HX.out _ HB.out).2.2.2⟩; simp [results, Tryd.results6, go_sem]; done)
  · clear b1 hB2 hI hG h64 hbig
    go_enter Tryd.func6, Tryd.ntmps6
    go_wp2_with (first
      | (go_at_call 12; refine (H12.out _).mono ?_; rintro e w3 ⟨b, rfl, hb, hB⟩; replace HB := Lib.hid (HB.out.trans (hB.mono HB.out.size)); clear x0 x1 x2; obtain ⟨⟨x0, x1, x2⟩, _⟩ := HX.out _ HB.out; clear hB hb)
      | (go_at_call 13; refine (H13.out _ (HX.out _ HB.out).2.2.1).mono ?_; rintro e w9 ⟨rfl, hB⟩; replace HB := Lib.hid (HB.out.trans (hB.mono HB.out.size)); clear x0 x1 x2; obtain ⟨⟨x0, x1, x2⟩, _⟩ := HX.out _ HB.out; clear hB)
      | (go_at_call 21; refine (H21.out _ HB.out).mono ?_; rintro e w4 ⟨rfl, hB⟩; replace HB := Lib.hid (HB.out.trans (hB.mono HB.out.size)); clear x0 x1 x2; obtain ⟨⟨x0, x1, x2⟩, _⟩ := HX.out _ HB.out; clear hB)
      | fail)
    all_goals (refine bodyPost_ret (v := .bool true) ?_ rfl ⟨rfl, (HX.out _ HB.out).2.2.2⟩; simp [results, Tryd.results6, go_sem]; done)
end Go.Proofs.YtomfnldlnoiloaaDoor
