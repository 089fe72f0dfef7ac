/- CrowdOwns: the walk. Printed by mkTO.py. -/
import Derived.Test.YtomfnldlnoiloaaDoorF2
import Derived.Test.YtomfnldlnoiloaaDoorF3
import Derived.Test.YtomfnldlnoiloaaDoorF4
namespace Go.Proofs.YtomfnldlnoiloaaDoor
set_option linter.unusedVariables false
set_option linter.unusedSimpArgs false
open Go Go.RowKit Go.Maps

theorem ints_form {W : World} {base n : Nat} {e : TypeId} {v : Value} {xs : List Int} (h : W.ownsRow base e 1 v n (xs.map I)) (hn : xs.length = n) : ∃ A c, v = .slice A n c ∧ Ints W W.heap.size A xs := by
  rcases own_form h with ⟨rfl, h0⟩ | ⟨g, cap, rfl, h1, h2, _⟩
  · exact ⟨none, 0, by rw [h0], fun h => by omega⟩
  · exact ⟨_, _, rfl, ints_own h⟩
theorem WallAns.uniq {v : Vis} {p m : Int} {l l' : List (Int × Int)} (h : WallAns v p m l) (h' : WallAns v p m l') : l = l' := by
  by_cases he : errN v p m = 0
  · obtain ⟨_, R, h1, rfl⟩ := h.1 he
    obtain ⟨_, R', h2, rfl⟩ := h'.1 he
    rw [(LeastL.uniq h1 h2).2]
  · rw [h.2 he, h'.2 he]
theorem WallAns.len {v : Vis} {p m : Int} {l : List (Int × Int)} (h : WallAns v p m l) : l.length ≤ 488 := by
  by_cases he : errN v p m = 0
  · obtain ⟨_, R, h1, rfl⟩ := h.1 he
    obtain ⟨hv, _, h2, h3⟩ := err_zero he
    exact standsR_len hv (by omega) R
  · rw [h.2 he]; simp
theorem flat2_at {W : World} {B : Nat} {A : Option Addr} {xs : List (Int × Int)} (h : Twos W B A xs) : 0 < xs.length → ∃ ad, A = some ad ∧ ∀ j u, (flat2 xs)[j]? = some u → W.cell? (ad.add j) = some u := fun h0 => by
  obtain ⟨b, off, rfl, _, hc⟩ := h h0
  refine ⟨_, rfl, fun j u hj => ?_⟩
  have hk : j / 2 < xs.length := by
    have := (List.getElem?_eq_some_iff.1 hj).1
    rw [flat2_len] at this
    omega
  obtain ⟨c0, c1⟩ := hc (j / 2) hk
  obtain ⟨d0, d1⟩ := flat2_get xs (j / 2) hk
  rw [Addr.add_lit]
  rcases Nat.mod_two_eq_zero_or_one j with e | e
  · have e2 : j / 2 * 2 = j := by omega
    rw [e2] at d0 c0
    rw [d0] at hj; cases hj; exact c0
  · have e2 : j / 2 * 2 + 1 = j := by omega
    rw [e2] at d1
    rw [show off + j / 2 * 2 + 1 = off + j by omega] at c1
    rw [d1] at hj; cases hj; exact c1
theorem info46b : (Tryd.prog.info? 46).map (fun i => (i.zero, i.size, i.bytes)) = some (some (sd 0 0), 2, 16) := by kernel_rfl
theorem flat_len (v : Vis) (l : List (Int × Int × Int)) : (flatL v l).length = v.rm.length + 4 * v.tr.length + 3 * v.ar.length + 3 * l.length := by
  have h4 : ∀ l : List (Int × Int × Int × Int), (l.flatMap f4).length = 4 * l.length := fun l => by
    induction l with
    | nil => rfl
    | cons a l ih => rw [List.flatMap_cons, List.length_append, ih, List.length_cons]; simp [f4]; omega
  have h3 : ∀ l : List (Int × Int × Int), (l.flatMap f3).length = 3 * l.length := fun l => by
    induction l with
    | nil => rfl
    | cons a l ih => rw [List.flatMap_cons, List.length_append, ih, List.length_cons]; simp [f3]; omega
  unfold flatL
  rw [List.length_append, List.length_append, List.length_append, h4, h3, h3]
set_option maxRecDepth 100000 in
set_option maxHeartbeats 16000000 in
theorem owns_any (v : Vis) (A1 A2 A3 : Option Addr) (q1 q2 q3 : Nat) (AL : Option Addr) (ql : Nat) (l : List Mv) (p m : Int) (w : World) (hG : GlobOk w) (hI : VisAt w w.heap.size v A1 A2 A3) (h64 : Vis64 v) (hL : Threes w w.heap.size AL l) (hll : l.length ≤ 9223372036854775807)
    (hbig : v.rm.length + v.tr.length + v.ar.length ≤ 1000000000000000) :
    Calls Tryd.prog 9 #[visV v A1 A2 A3 q1 q2 q3, .slice AL l.length ql, I p, I m] w fun e w' => e = .returned (.bool true) ∧ Below w.heap.size w w' := by
  obtain ⟨w2, hw2⟩ : ∃ w2, (w.alloc (.cells #[.slice A1 v.rm.length q1, .slice A2 v.tr.length q2, .slice A3 v.ar.length q3] 26)).alloc (.cells #[.slice AL l.length ql] 27) = w2 := ⟨_, rfl⟩
  have hz2 : w2.heap.size = w.heap.size + 1 + 1 := by rw [← hw2]; simp
  have hB2 : Below w.heap.size w w2 := by rw [← hw2]; (repeat' (first | assumption | exact Below.refl _ _ | refine Below.drew ?_ | refine below_drewN ?_ _ | refine Below.setCell ?_ (by first | omega | (simp; done) | (simp; omega)) _ | refine Below.alloc ?_ (by first | omega | (simp; done) | (simp; omega)) _ | refine Below.trans ?_ (Below.mono (by assumption) (by first | omega | (simp; done) | (simp; omega)))))
  have b1 : Box w2 w.heap.size [.slice A1 v.rm.length q1, .slice A2 v.tr.length q2, .slice A3 v.ar.length q3] := by rw [← hw2]; exact (Box.new w [.slice A1 v.rm.length q1, .slice A2 v.tr.length q2, .slice A3 v.ar.length q3] 26).alloc _
  have b2 : Box w2 (w.heap.size + 1) [.slice AL l.length ql] := by
    have h := Box.new (w.alloc (.cells #[.slice A1 v.rm.length q1, .slice A2 v.tr.length q2, .slice A3 v.ar.length q3] 26)) [.slice AL l.length ql] 27
    rw [World.size_alloc] at h
    rw [← hw2]; exact h
  have HX : Hid (∀ W, Below w2.heap.size w2 W → ((W.cell? ⟨w.heap.size, 0, none⟩ = some (.slice A1 v.rm.length q1) ∧ W.cell? ⟨w.heap.size, 1, none⟩ = some (.slice A2 v.tr.length q2) ∧ W.cell? ⟨w.heap.size, 2, none⟩ = some (.slice A3 v.ar.length q3)) ∧ W.cell? ⟨w.heap.size + 1, 0, none⟩ = some (.slice AL l.length ql)) ∧ (Box W w.heap.size [.slice A1 v.rm.length q1, .slice A2 v.tr.length q2, .slice A3 v.ar.length q3] ∧ Box W (w.heap.size + 1) [.slice AL l.length ql]) ∧ VisAt W W.heap.size v A1 A2 A3 ∧ Threes W W.heap.size AL l ∧ GlobOk W ∧ Below w.heap.size w W) := Lib.hid fun W h => by
    have hb := hB2.trans (h.mono hB2.size)
    exact ⟨⟨⟨((b1.call h).at_ 0 _ rfl).1, ((b1.call h).at_ 1 _ rfl).1, ((b1.call h).at_ 2 _ rfl).1⟩, ((b2.call h).at_ 0 _ rfl).1⟩, ⟨b1.call h, b2.call h⟩, (hI.below hb).more hb.size, (hL.below hb).more hb.size, hG.below hb hG.z, hb⟩
  have HB := Lib.hid (Below.refl w2.heap.size w2)
  obtain ⟨⟨⟨x0, x1, x2⟩, x3⟩, _⟩ := HX.out w2 HB.out
  have H12 : Hid (∀ W, Calls Tryd.prog 12 #[visV v A1 A2 A3 q1 q2 q3] W (RetFew (v.rm.length + v.tr.length + v.ar.length ≤ 40) W)) := Lib.hid fun W => great12 v A1 A2 A3 q1 q2 q3 W hbig
  have H13 : Hid (∀ W, GlobOk W → Calls Tryd.prog 13 #[] W fun e w' => e = .returned (.bool true) ∧ Below W.heap.size W w') := Lib.hid alive13
  have H25 : Hid (∀ W, Below w2.heap.size w2 W → v.rm.length + v.tr.length + v.ar.length ≤ 40 → l.length ≤ 40 → Calls Tryd.prog 25 #[ptr w.heap.size, ptr (w.heap.size + 1)] W fun e w' => ∃ A c, e = .returned (.slice A (flatL v l).length c) ∧ Ints w' w'.heap.size A (flatL v l) ∧ Below W.heap.size W w') := Lib.hid fun W h h1 h2 => by
    obtain ⟨_, ⟨c1, c2⟩, c3, c4, _⟩ := HX.out W h
    refine (flat25 v A1 A2 A3 AL q1 q2 q3 ql l w.heap.size (w.heap.size + 1) W h1 h2 c1 c2 c3 c4).mono ?_
    rintro e w' ⟨r, rfl, ho, hB⟩
    obtain ⟨A, c, rfl, hi⟩ := ints_form ho rfl
    exact ⟨A, c, rfl, hi, hB⟩
  have H18 : Hid (∀ W, Below w2.heap.size w2 W → Calls Tryd.prog 18 #[visV v A1 A2 A3 q1 q2 q3, I p, I m] W fun e w' => ∃ (A : Option Addr) (c : Nat) (la : List (Int × Int)), e = .returned (.tuple #[.slice A la.length c, I (errN v p m)]) ∧ WallAns v p m la ∧ StandsAt w' W.heap.size A la ∧ Below W.heap.size W w') := Lib.hid fun W h => by
    obtain ⟨_, _, c3, _, c5, _⟩ := HX.out W h
    exact wall18 v h64 A1 A2 A3 q1 q2 q3 p m W c3 c5
  have H14 : Hid (∀ W, Below w2.heap.size w2 W → Calls Tryd.prog 14 #[visV v A1 A2 A3 q1 q2 q3, .slice AL l.length ql, I p, I m] W fun e w' => ∃ r, e = .returned r ∧ Below W.heap.size W w') := Lib.hid fun W h => by
    obtain ⟨_, _, c3, c4, _⟩ := HX.out W h
    refine (see14 v h64 A1 A2 A3 AL q1 q2 q3 ql l p m W c3 c4).mono ?_
    rintro e w' ⟨rfl, hB⟩
    exact ⟨_, rfl, hB⟩
  have hmf : ∀ (fn : Fn) (first cap : Array Value) (w : World), (Instr.makeFunc fn first cap).run Tryd.prog w = .ok (.func fn first cap) w := fun _ _ _ _ => rfl
  obtain ⟨en, hen⟩ : ∃ z, errN v p m = z := ⟨_, rfl⟩
  rw [hen] at H18
  have hfl : v.rm.length + v.tr.length + v.ar.length ≤ 40 → l.length ≤ 40 → (flatL v l).length ≤ 400 := fun h1 h2 => by rw [flat_len]; omega
  have HFL := Lib.hid hfl
  clear b1 b2 hB2 hI hL hG h64 hbig hfl hen
  by_cases hl40 : (40 : Int) < (l.length : Int)
  · go_enter Tryd.func9, Tryd.ntmps9
    go_wp2_with (first
      | (go_at_call 12; refine (H12.out _).mono ?_; rintro e w3 ⟨b, rfl, hb, hB⟩; have HS := Lib.hid hb; replace HB := Lib.hid (HB.out.trans (hB.mono HB.out.size)); clear x0 x1 x2 x3; obtain ⟨⟨⟨x0, x1, x2⟩, x3⟩, _⟩ := HX.out _ HB.out; clear hB hb)
      | (go_at_call 13; refine (H13.out _ (HX.out _ HB.out).2.2.2.2.1).mono ?_; rintro e w9 ⟨rfl, hB⟩; replace HB := Lib.hid (HB.out.trans (hB.mono HB.out.size)); clear x0 x1 x2 x3; obtain ⟨⟨⟨x0, x1, x2⟩, x3⟩, _⟩ := HX.out _ HB.out; clear hB)
      | fail)
    all_goals (refine bodyPost_ret (v := .bool true) ?_ rfl ⟨rfl, (HX.out _ HB.out).2.2.2.2.2⟩; simp [results, Tryd.results9, go_sem]; done)
  by_cases hm30 : (30 : Int) < m
  · go_enter Tryd.func9, Tryd.ntmps9
    go_wp2_with (first
      | (go_at_call 12; refine (H12.out _).mono ?_; rintro e w3 ⟨b, rfl, hb, hB⟩; have HS := Lib.hid hb; replace HB := Lib.hid (HB.out.trans (hB.mono HB.out.size)); clear x0 x1 x2 x3; obtain ⟨⟨⟨x0, x1, x2⟩, x3⟩, _⟩ := HX.out _ HB.out; clear hB hb)
      | (go_at_call 13; refine (H13.out _ (HX.out _ HB.out).2.2.2.2.1).mono ?_; rintro e w9 ⟨rfl, hB⟩; replace HB := Lib.hid (HB.out.trans (hB.mono HB.out.size)); clear x0 x1 x2 x3; obtain ⟨⟨⟨x0, x1, x2⟩, x3⟩, _⟩ := HX.out _ HB.out; clear hB)
      | fail)
    all_goals (refine bodyPost_ret (v := .bool true) ?_ rfl ⟨rfl, (HX.out _ HB.out).2.2.2.2.2⟩; simp [results, Tryd.results9, go_sem]; done)
  have hl40b : l.length ≤ 40 := by omega
  have tk1 : Hid True := Lib.hid trivial
  obtain ⟨i0, hi0, hi1, hi2, hi3⟩ := info_parts info46b
  go_enter Tryd.func9, Tryd.ntmps9
  go_wp2_with (first
    | (go_at_call 12; refine (H12.out _).mono ?_; rintro e w3 ⟨b, rfl, hb, hB⟩; have HS := Lib.hid hb; replace HB := Lib.hid (HB.out.trans (hB.mono HB.out.size)); clear x0 x1 x2 x3; obtain ⟨⟨⟨x0, x1, x2⟩, x3⟩, _⟩ := HX.out _ HB.out; clear hB hb)
    | (go_at_call 13; refine (H13.out _ (HX.out _ HB.out).2.2.2.2.1).mono ?_; rintro e w9 ⟨rfl, hB⟩; replace HB := Lib.hid (HB.out.trans (hB.mono HB.out.size)); clear x0 x1 x2 x3; obtain ⟨⟨⟨x0, x1, x2⟩, x3⟩, _⟩ := HX.out _ HB.out; clear hB)
    | (go_at_call 25; have _t := tk1; clear tk1; have hs := HS.out (by first | assumption | rfl | simp_all); have hf400 := HFL.out hs hl40b; refine (H25.out _ HB.out hs hl40b).mono ?_; rintro e w4 ⟨Ar, cr, rfl, hri, hB⟩; have HR := Lib.hid hri; replace HB := Lib.hid (HB.out.trans (hB.mono HB.out.size)); clear x0 x1 x2 x3; obtain ⟨⟨⟨x0, x1, x2⟩, x3⟩, _⟩ := HX.out _ HB.out; have HB4 := HB; clear hB hri)
    | (go_at_call 18; refine (H18.out _ HB.out).mono ?_; rintro e w5 ⟨A, c, la, rfl, hA, hT, hB⟩; have HA := Lib.hid hA; have HT := Lib.hid hT; have HB45 := Lib.hid hB; have hla := hA.len; have HAT := Lib.hid (flat2_at (hT.1.below (below1 w5 (.cells #[] 46)))); have HROW : Hid ((w5.alloc (.cells #[] 46)).ownsRow w5.heap.size 46 2 (.slice (some ⟨w5.heap.size, 0, none⟩) 0 0) 0 []) := Lib.hid (World.ownsRow_made w5 #[] 0 (Nat.le_refl _) (Nat.zero_le _) (by simp)); replace HB := Lib.hid (HB.out.trans (hB.mono HB.out.size)); clear x0 x1 x2 x3; obtain ⟨⟨⟨x0, x1, x2⟩, x3⟩, _⟩ := HX.out _ HB.out; clear hB hA hT)
    | (at_builtin; refine wpList_append_any _ rfl _ _ 36 rfl w5.heap.size 46 i0 (sd 0 0) 2 16 Tryd.underlying36 hi0 hi1 hi2 hi3 rfl (by decide) _ 0 [] rfl HROW.out A la.length c (flat2 la) rfl (flat2_len la) HAT.out (flat2_one la) (by unfold maxLen; omega) (by omega) (below1 w5 (.cells #[] 46)).size ?_; intro r2 w6 ho2 hg2; rw [Nat.zero_add, List.nil_append] at ho2; have hB : Below w5.heap.size w5 w6 := (below1 w5 (.cells #[] 46)).grown hg2 (below1 w5 (.cells #[] 46)).size (fun g e => (HROW.out.lt g e).1); have HB56 := Lib.hid hB; have HO := Lib.hid ho2; replace HB := Lib.hid (HB.out.trans (hB.mono HB.out.size)); clear x0 x1 x2 x3; obtain ⟨⟨⟨x0, x1, x2⟩, x3⟩, _⟩ := HX.out _ HB.out; clear hB ho2 hg2 HROW HAT)
    | fail)
  all_goals first | (refine bodyPost_ret (v := .bool true) ?_ rfl ⟨rfl, (HX.out _ HB.out).2.2.2.2.2⟩; simp [results, Tryd.results9, go_sem]; done) | skip
  have HC6 : Hid (∀ b, A = some ⟨b, 0, none⟩ → ∀ j, j < la.length * 2 → (∃ u, w6.cell? ⟨b, j, none⟩ = some u) ∧ w6.frozen? ⟨b, j, none⟩ = false) := Lib.hid fun b hb j hj => by
    obtain ⟨b', off, hA', hbz, hcs⟩ := HT.out.1 (by omega)
    obtain ⟨h1, h2, h3⟩ := HT.out.2 b' off hA'
    subst h1
    rw [hA'] at hb
    obtain rfl : b' = b := by cases hb; rfl
    refine ⟨?_, (HB56.out.frozen (p := ⟨b', j, none⟩) hbz).trans (h3 j hj)⟩
    obtain ⟨c0, c1⟩ := hcs (j / 2) (by omega)
    rcases Nat.mod_two_eq_zero_or_one j with e | e
    · rw [show 0 + j / 2 * 2 = j by omega] at c0
      exact ⟨_, (HB56.out.cell (p := ⟨b', j, none⟩) hbz).trans c0⟩
    · rw [show 0 + j / 2 * 2 + 1 = j by omega] at c1
      exact ⟨_, (HB56.out.cell (p := ⟨b', j, none⟩) hbz).trans c1⟩
  go_loopw [46] (fun i wr => ∃ k : Nat, i = I k ∧ k ≤ la.length ∧ Hid (Frm w6.heap.size (fun x => A = some ⟨x, 0, none⟩) w6 wr) ∧ Hid (wr.ownsRow w5.heap.size 46 2 r2 la.length (flat2 la)) ∧ Hid (∀ b, A = some ⟨b, 0, none⟩ → ∀ j, j < la.length * 2 → (∃ u, wr.cell? ⟨b, j, none⟩ = some u) ∧ wr.frozen? ⟨b, j, none⟩ = false)) (fun i _ => la.length - (intOf i).toNat)
  case atStart => exact ⟨0, rfl, by omega, Lib.hid (Frm.refl _ _ _), HO, HC6⟩
  case round =>
    obtain ⟨k, rfl, hk, HF, HOr, HC⟩ := hrel
    clear HO HC6
    by_cases hlt : k < la.length
    · obtain ⟨b, off, hA', hbz, _⟩ := HT.out.1 (by omega)
      obtain ⟨h1, h2, _⟩ := HT.out.2 b off hA'
      subst h1 hA'
      obtain ⟨⟨u, hu⟩, hf⟩ := HC.out b rfl (k * 2) (by omega)
      have k0 : (0 : Int) ≤ (k : Int) := by omega
      have k1 : (k : Int) < (la.length : Int) := by omega
      clear x0 x1 x2 x3
      go_wp2_with (fail)
      go_roundw
      case rel =>
        refine ⟨k + 1, by go_num, by omega, Lib.hid (HF.out.setCell (.inr rfl) _), Lib.hid (ownsRow_setCell_below HOr.out hbz _), Lib.hid fun b' hb' j hj => ?_⟩
        obtain rfl : b = b' := by cases hb'; rfl
        obtain ⟨⟨u', hu'⟩, hf'⟩ := HC.out b rfl j hj
        refine ⟨?_, by rw [World.frozen?_setCell]; exact hf'⟩
        by_cases e : j = k * 2
        · subst e; exact ⟨_, by first | exact World.cell?_setCell_same _ _ _ hu | exact World.cell?_setCell_same _ _ _ _ hu⟩
        · refine ⟨u', ?_⟩
          rw [World.cell?_setCell_other _ _ _ _ (fun h => e (by cases h; rfl))]
          exact hu'
      case measure => simp [intOf]; omega
    · have k1 : ¬ (k : Int) < (la.length : Int) := by omega
      have hS : ∀ x, A = some ⟨x, 0, none⟩ → w4.heap.size ≤ x := fun x hx => (HT.out.2 x 0 hx).2.1
      have hz56 := HB56.out.size
      have hz45 := HB45.out.size
      have hz24 := (HB4.out).size
      have hBf : Below w4.heap.size w6 wr := HF.out.below (by omega) (fun x hx hs => by have := hS x hs; omega)
      replace HB := Lib.hid (HB.out.trans (hBf.mono (by omega)))
      replace HR := Lib.hid ((HR.out.below ((HB45.out.trans (HB56.out.mono hz45)).trans hBf)).more (B' := wr.heap.size) (by have := hBf.size; omega))
      obtain ⟨Ac, cc, hr2, hT2, _⟩ := twos_own HOr.out rfl
      subst hr2
      have HT2 := Lib.hid hT2
      clear x0 x1 x2 x3 hT2 hBf HOr HF HC HT HB45 HB56 HB4 hS hz56 hz45 hz24
      obtain ⟨⟨⟨x0, x1, x2⟩, x3⟩, _⟩ := HX.out _ HB.out
      go_upto_if 75 with (first
        | (go_at_call 14; refine (H14.out _ HB.out).mono ?_; rintro e w7 ⟨r7, rfl, hB⟩; replace HR := Lib.hid ((HR.out.below hB).more hB.size); replace HT2 := Lib.hid ((HT2.out.below hB).more hB.size); replace HB := Lib.hid (HB.out.trans (hB.mono HB.out.size)); clear x0 x1 x2 x3; obtain ⟨⟨⟨x0, x1, x2⟩, x3⟩, _⟩ := HX.out _ HB.out; clear hB)
        | (go_at_call 18; refine (H18.out _ HB.out).mono ?_; rintro e w8 ⟨A8, c8, lb, rfl, hA8, hT8, hB⟩; obtain rfl := HA.out.uniq hA8; have HT8 := Lib.hid hT8.1; replace HR := Lib.hid ((HR.out.below hB).more hB.size); replace HT2 := Lib.hid ((HT2.out.below hB).more hB.size); replace HB := Lib.hid (HB.out.trans (hB.mono HB.out.size)); clear x0 x1 x2 x3; obtain ⟨⟨⟨x0, x1, x2⟩, x3⟩, _⟩ := HX.out _ HB.out; clear hB hA8 hT8)
        | (go_at_call 25; refine (H25.out _ HB.out hs hl40b).mono ?_; rintro e w10 ⟨As, cs, rfl, his, hB⟩; have HQ := Lib.hid his; replace HT8 := Lib.hid ((HT8.out.below hB).more hB.size); replace HR := Lib.hid ((HR.out.below hB).more hB.size); replace HT2 := Lib.hid ((HT2.out.below hB).more hB.size); replace HB := Lib.hid (HB.out.trans (hB.mono HB.out.size)); clear x0 x1 x2 x3; obtain ⟨⟨⟨x0, x1, x2⟩, x3⟩, _⟩ := HX.out _ HB.out; clear hB his)
        | fail)
      go_loopw [75] (fun i wr2 => ∃ k : Nat, i = I k ∧ k ≤ (flatL v l).length ∧ Hid (Below w10.heap.size w10 wr2)) (fun i _ => (flatL v l).length - (intOf i).toNat)
      case atStart => exact ⟨0, rfl, by omega, Lib.hid (Below.refl _ _)⟩
      case round =>
        obtain ⟨k, rfl, hk, HBr⟩ := hrel
        clear x0 x1 x2 x3
        by_cases hlt : k < (flatL v l).length
        · obtain ⟨b1, o1, rfl, hb1, hc1⟩ := (HR.out.below HBr.out) (by omega)
          obtain ⟨b2, o2, rfl, hb2, hc2⟩ := (HQ.out.below HBr.out) (by omega)
          have y1 := hc1 k hlt
          have y2 := hc2 k hlt
          clear hc1 hc2
          generalize (flatL v l)[k] = yy at *
          have k0 : (0 : Int) ≤ (k : Int) := by omega
          have k1 : (k : Int) < ((flatL v l).length : Int) := by omega
          go_wp2_with (fail)
          go_quiet (fail)
          go_wp2
          go_roundw
          case rel => exact ⟨k + 1, by go_num, by omega, Lib.hid (by first | exact HBr.out | exact below_drewN HBr.out _)⟩
          case measure => first | (simp [intOf]; done) | (simp [intOf]; omega)
        · have k1 : ¬ (k : Int) < ((flatL v l).length : Int) := by omega
          have hB := HBr.out
          replace HT8 := Lib.hid ((HT8.out.below hB).more hB.size)
          replace HT2 := Lib.hid ((HT2.out.below hB).more hB.size)
          replace HB := Lib.hid (HB.out.trans (hB.mono HB.out.size))
          obtain ⟨⟨⟨x0, x1, x2⟩, x3⟩, _⟩ := HX.out _ HB.out
          have H20 : Hid (∀ W, Twos W W.heap.size A8 la → Twos W W.heap.size Ac la → Calls Tryd.prog 20 #[.slice A8 la.length c8, .slice Ac la.length cc] W fun e w' => e = .returned (.bool true) ∧ Below W.heap.size W w') := Lib.hid fun W h h' => by
            have := stands20 A8 Ac c8 cc la la W h h' (by omega) (by omega)
            simpa using this
          clear hB HBr
          go_wp2_with (first
            | (go_at_call 20; refine (H20.out _ HT8.out HT2.out).mono ?_; rintro e w11 ⟨rfl, hB⟩; replace HB := Lib.hid (HB.out.trans (hB.mono HB.out.size)); clear x0 x1 x2 x3; obtain ⟨⟨⟨x0, x1, x2⟩, x3⟩, _⟩ := HX.out _ HB.out; clear hB)
            | (go_at_call 13; refine (H13.out _ (HX.out _ HB.out).2.2.2.2.1).mono ?_; rintro e w9 ⟨rfl, hB⟩; replace HB := Lib.hid (HB.out.trans (hB.mono HB.out.size)); clear x0 x1 x2 x3; obtain ⟨⟨⟨x0, x1, x2⟩, x3⟩, _⟩ := HX.out _ HB.out; clear hB)
            | fail)
          all_goals (refine bodyPost_ret (v := .bool true) ?_ rfl ⟨rfl, (HX.out _ HB.out).2.2.2.2.2⟩; simp [results, Tryd.results9, go_sem]; done)
end Go.Proofs.YtomfnldlnoiloaaDoor
