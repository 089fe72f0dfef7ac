/- Wall. -/
import Derived.Test.YtomfnldlnoiloaaDoorS11
import Derived.Test.YtomfnldlnoiloaaDoorS10
import Derived.Test.YtomfnldlnoiloaaDoorN9
namespace Go.Proofs.YtomfnldlnoiloaaDoor
set_option linter.unusedVariables false
set_option linter.unusedSimpArgs false
open Go Go.RowKit Go.Maps
attribute [local go_sem] Oper.semAt_some

/-- A list of stands that a call has made. -/
def StandsAt (w : World) (lo : Nat) (A : Option Addr) (l : List (Int × Int)) : Prop := Twos w w.heap.size A l ∧ ∀ b off, A = some ⟨b, off, none⟩ → off = 0 ∧ lo ≤ b ∧ ∀ j, j < l.length * 2 → w.frozen? ⟨b, j, none⟩ = false
/-- What Wall answers. -/
def WallAns (v : Vis) (p m : Int) (l : List (Int × Int)) : Prop := (errN v p m = 0 → ∃ val R, MostIs v p.toNat m.toNat val R ∧ l = standsR v m.toNat R) ∧ (errN v p m ≠ 0 → l = [])
theorem own_cap {w : World} {base n c size : Nat} {e : TypeId} {A : Option Addr} {xs : List Value} (h : w.ownsRow base e size (.slice A n c) n xs) : n ≤ c := by
  rcases h.2 with ⟨h1, h0⟩ | ⟨g, cap, cur, hv, _, _, h3, _⟩
  · omega
  · simp only [Value.slice.injEq, true_and] at hv
    omega
theorem info46 : (Tryd.prog.info? 46).map (fun i => (i.zero, i.size, i.bytes)) = some (some (sd 0 0), 2, 16) := by kernel_rfl
/-- The stands of the steps so far. -/
def stL (k : Kt) (L : List Arc3) (fin : List Stp) (pre : List (Fin fin.length)) : List (Int × Int) := pre.map fun y => (k.a (stT L fin[y]), k.b (stT L fin[y]))
theorem stL_snoc (k : Kt) (L : List Arc3) (fin : List Stp) (pre : List (Fin fin.length)) (y : Fin fin.length) : stL k L fin (pre ++ [y]) = stL k L fin pre ++ [(k.a (stT L fin[y]), k.b (stT L fin[y]))] := by simp [stL]
theorem stL_all (k : Kt) (L : List Arc3) (fin : List Stp) : stL k L fin (List.finRange fin.length) = fin.map fun p => (k.a (stT L p), k.b (stT L p)) := by
  unfold stL
  apply List.ext_getElem
  · simp
  · intro i h1 h2; simp
set_option maxRecDepth 100000 in
set_option maxHeartbeats 8000000 in
theorem wall18 (v : Vis) (h64 : Vis64 v) (A1 A2 A3 : Option Addr) (q1 q2 q3 : Nat) (p m : Int) (w : World) (hI : VisAt w w.heap.size v A1 A2 A3) (hG : GlobOk w) :
    Calls Tryd.prog 18 #[visV v A1 A2 A3 q1 q2 q3, I p, I m] w fun e w' => ∃ (A : Option Addr) (c : Nat) (l : List (Int × Int)), e = .returned (.tuple #[.slice A l.length c, I (errN v p m)]) ∧ WallAns v p m l ∧ StandsAt w' w.heap.size A l ∧ Below w.heap.size w w' ∧ l.length ≤ c := by
  obtain ⟨w2, hw2⟩ : ∃ w2, (w.alloc (.cells #[.slice A1 v.rm.length q1, .slice A2 v.tr.length q2, .slice A3 v.ar.length q3] 26)).alloc (.cells #[I p, I m] 46) = w2 := ⟨_, rfl⟩
  have hB2 : Below w.heap.size w w2 := by rw [← hw2]; (repeat' (first | assumption | exact Below.refl _ _ | refine Below.drew ?_ | refine below_drewN ?_ _ | refine Below.setCell ?_ (by first | omega | (simp; done) | (simp; omega)) _ | refine Below.alloc ?_ (by first | omega | (simp; done) | (simp; omega)) _ | refine Below.trans ?_ (Below.mono (by assumption) (by first | omega | (simp; done) | (simp; omega)))))
  have b1 : Box w2 w.heap.size [.slice A1 v.rm.length q1, .slice A2 v.tr.length q2, .slice A3 v.ar.length q3] := by rw [← hw2]; exact (Box.new w [.slice A1 v.rm.length q1, .slice A2 v.tr.length q2, .slice A3 v.ar.length q3] 26).alloc _
  have b2 : Box w2 (w.heap.size + 1) [I p, I m] := by
    rw [← hw2]
    have h := Box.new (w.alloc (.cells #[.slice A1 v.rm.length q1, .slice A2 v.tr.length q2, .slice A3 v.ar.length q3] 26)) [I p, I m] 46
    simpa only [World.size_alloc] using h
  have hI2 := (hI.below hB2).more hB2.size
  have H30 := Lib.hid (errorOf30 v h64 A1 A2 A3 q1 q2 q3 p m w2 hI2)
  have HBX : Hid (∀ W, Below w2.heap.size w2 W → (W.cell? ⟨w.heap.size, 0, none⟩ = some (.slice A1 v.rm.length q1) ∧ W.cell? ⟨w.heap.size, 1, none⟩ = some (.slice A2 v.tr.length q2) ∧ W.cell? ⟨w.heap.size, 2, none⟩ = some (.slice A3 v.ar.length q3)) ∧ (W.cell? ⟨w.heap.size + 1, 0, none⟩ = some (I p) ∧ W.cell? ⟨w.heap.size + 1, 1, none⟩ = some (I m)) ∧ Below w.heap.size w W) := Lib.hid fun W h =>
    ⟨⟨((b1.call h).at_ 0 _ rfl).1, ((b1.call h).at_ 1 _ rfl).1, ((b1.call h).at_ 2 _ rfl).1⟩, ⟨((b2.call h).at_ 0 _ rfl).1, ((b2.call h).at_ 1 _ rfl).1⟩, hB2.trans (h.mono hB2.size)⟩
  obtain ⟨⟨x0, x1, x2⟩, ⟨x3, x4⟩, _⟩ := HBX.out w2 (Below.refl _ _)
  have HG2 : Hid (∀ W, Below w.heap.size w W → GlobOk W) := Lib.hid fun W h => hG.below h hG.z
  have HI2 : Hid (∀ W, Below w2.heap.size w2 W → VisAt W W.heap.size v A1 A2 A3) := Lib.hid fun W h => (hI2.below h).more h.size
  have hw2z := hB2.size
  have hwz := hG.z
  clear b1 b2 hB2 hI hG hI2 h64
  by_cases he : errN v p m = 0
  · obtain ⟨hv, hp, hm⟩ := err_zero he
    have HV := Lib.hid hv
    rw [he] at H30
    obtain ⟨pn, rfl⟩ : ∃ n : Nat, p = n := ⟨p.toNat, (Int.toNat_of_nonneg hp.1).symm⟩
    obtain ⟨mn, rfl⟩ : ∃ n : Nat, m = n := ⟨m.toNat, (Int.toNat_of_nonneg hm.1).symm⟩
    have hpn : pn < v.n := by have := hv.n; omega
    have hmn : mn ≤ 60 := by omega
    have H40 : Hid (∀ W, Below w2.heap.size w2 W → Calls Tryd.prog 40 #[visV v A1 A2 A3 q1 q2 q3, sd pn mn] W fun e w' => ∃ b, e = .returned (.map (some b)) ∧ Below W.heap.size W w' ∧ NetL (W.heap.size + 1 + 1) b (snkN v mn + 1) (ktv v.n (srcN v mn)) (netP v pn mn) w') := Lib.hid fun W h => newNet40 v hv pn mn hpn hmn A1 A2 A3 q1 q2 q3 W (HI2.out W h) (HG2.out W (HBX.out W h).2.2)
    have HE := Lib.hid he
    obtain ⟨i0, hi0, hi1, hi2, hi3⟩ := info_parts info46
    clear hp hm he hv
    refine (callsIn_wide (n := 9)).1 ?_
    refine callsIn_of_wp_marks Tryd.func18 rfl trivial ?_ rfl
    refine wpIn_mono (Q := postM _ _ _ _ _) ?_ postM_of
    simp only [Tryd.ntmps18, List.size_toArray, List.length_cons, List.length_nil, Nat.reduceAdd, Nat.reduceSub, Array.replicate_succ, Array.replicate_zero, List.push_toArray, List.append_toArray, List.nil_append, List.cons_append]
    gi_wp2_with (first
      | (refine And.intro trivial ?_; gi_at_call 30; refine (callsIn_wide.2 H30.out).mono ?_; rintro e w3 ⟨rfl, hb3⟩; obtain ⟨⟨y0, y1, y2⟩, ⟨y3, y4⟩, hB3⟩ := HBX.out w3 hb3)
      | (refine And.intro trivial ?_; gi_at_call 40; refine (callsIn_wide.2 (H40.out _ hb3)).mono ?_; rintro e w4 ⟨b, rfl, hb4, hN4⟩; have hB4 := (HBX.out w4 (below_call hb3 hb4)).2.2; have H41 := Lib.hid (fillNet HV.out hpn hmn hN4 (HG2.out w4 hB4) (by omega)))
      | (refine And.intro trivial ?_; gi_at_call 41; refine (callsIn_wide.2 H41.out).mono ?_; rintro e w5 ⟨d, f, val, hd, rfl, hF, hno, hM⟩; subst hd)
      | (refine And.intro trivial ?_; gi_at_call 43; refine (callsIn_wide.2 (reach43 d.b _)).mono ?_; rintro e w6 ⟨rfl, rfl⟩)
      | fail)
    have hs := srcN_le HV.out hmn
    have hw3z := hB3.size
    have hw4z := hb4.size
    have HW2 : Hid (∀ W, W = (w5.alloc (.cells #[.slice none 0 0] 36)).alloc (.cells #[.map (some d.b)] 77) →
        RcEnv W.heap.size (· = w5.heap.size) (w3.heap.size + 1 + 1) w4.heap.size (snkN v mn + 1) (ktv v.n (srcN v mn)) (netP v pn mn) f d (srcN v mn) (w5.heap.size + 1) W ∧ Boxed W w5.heap.size 36 (.slice none 0 0) ∧ Below w.heap.size w W ∧ W.heap.size = w5.heap.size + 2) := Lib.hid fun W hW => by
      subst hW
      have hB : Below w5.heap.size w5 ((w5.alloc (.cells #[.slice none 0 0] 36)).alloc (.cells #[.map (some d.b)] 77)) := by (repeat' (first | assumption | exact Below.refl _ _ | refine Below.drew ?_ | refine below_drewN ?_ _ | refine Below.setCell ?_ (by first | omega | (simp; done) | (simp; omega)) _ | refine Below.alloc ?_ (by first | omega | (simp; done) | (simp; omega)) _ | refine Below.trans ?_ (Below.mono (by assumption) (by first | omega | (simp; done) | (simp; omega)))))
      have b4 := Box.new (w5.alloc (.cells #[.slice none 0 0] 36)) [.map (some d.b)] 77
      simp only [World.size_alloc] at b4
      have hz5 := hF.bl.size
      have hB5 : Below w.heap.size w w5 := hB4.trans (hF.bl.mono (by omega))
      have hn := hF.net.below hB hF.net.top
      refine ⟨⟨hn, netP_ok HV.out hpn, ktv_ok (by omega), ktv_src _ _, HG2.out _ (hB5.trans (hB.mono hB5.size)), (b4.at_ 0 _ rfl).1, fun g h1 h2 => by omega, ⟨by omega, by omega, by omega⟩, ⟨by simp only [World.size_alloc]; omega, by simp only [World.size_alloc]; omega, by simp only [World.size_alloc]; omega⟩, by have := netP_len HV.out (p := pn) hmn; omega⟩, (Boxed.new w5 36 _).alloc _, hB5.trans (hB.mono hB5.size), by simp only [World.size_alloc]⟩
    obtain ⟨W2, hW2⟩ : ∃ W2, W2 = (w5.alloc (.cells #[.slice none 0 0] 36)).alloc (.cells #[.map (some d.b)] 77) := ⟨_, rfl⟩
    rw [← hW2]
    obtain ⟨hE2, hbx2, hBW2, hz2⟩ := HW2.out W2 hW2
    have hz2a : w5.heap.size + 1 < W2.heap.size := by omega
    have hw5z : w4.heap.size ≤ w5.heap.size := hF.bl.size
    have HAns : Hid (∀ l, l.Perm ((bfsL (netP v pn mn) f (srcN v mn) (snkN v mn + 1)).map fun q => ((ktv v.n (srcN v mn)).a (stT (netP v pn mn) q), (ktv v.n (srcN v mn)).b (stT (netP v pn mn) q))) → l.Pairwise leR → WallAns v pn mn l) := Lib.hid fun l hp hs => ⟨fun _ => ⟨val, _, hM, by
      have hS := bfsL_srch (netP v pn mn) f (srcN v mn) (snkN v mn + 1)
      have hno' : ∀ x, x ∈ (bfsL (netP v pn mn) f (srcN v mn) (snkN v mn + 1)).map (stT (netP v pn mn)) → x < srcN v mn := fun x hx => by
        have h1 : x ≠ srcN v mn := fun e => (List.nodup_cons.1 hS.nodup).1 (e ▸ hx)
        have h2 : x ≠ snkN v mn := fun e => hno (List.mem_cons.2 (.inr (e ▸ hx)))
        have h3 : x < snkN v mn + 1 := by
          obtain ⟨q, hq, rfl⟩ := List.mem_map.1 hx
          obtain ⟨y, hy⟩ := bfs_mem hq
          exact (netP_ok HV.out hpn).stT hy
        unfold snkN at h2 h3
        omega
      refine sorted_stands (hp.trans ?_) hs
      have h1 := stands_perm HV.out (List.nodup_cons.1 hS.nodup).2 hno' (R := reachL (netP v pn mn) f (srcN v mn) (snkN v mn + 1)) fun x hx => by
        unfold reachL
        rw [decide_eq_true_iff]
        show x ∈ ordS _ _ _ ↔ _
        unfold ordS
        rw [List.mem_cons]
        constructor
        · rintro (h | h)
          · omega
          · exact h
        · exact .inr
      rw [List.map_map] at h1
      have e : (bfsL (netP v pn mn) f (srcN v mn) (snkN v mn + 1)).map (fun q => ((ktv v.n (srcN v mn)).a (stT (netP v pn mn) q), (ktv v.n (srcN v mn)).b (stT (netP v pn mn) q))) = (bfsL (netP v pn mn) f (srcN v mn) (snkN v mn + 1)).map ((fun x => (((x % v.n : Nat) : Int), ((x / v.n : Nat) : Int))) ∘ stT (netP v pn mn)) := List.map_congr_left fun q hq => by
        have := hno' (stT (netP v pn mn) q) (List.mem_map.2 ⟨q, hq, rfl⟩)
        simp only [ktv, Function.comp, if_pos this]
      rw [e]
      exact h1⟩, fun h => absurd HE.out h⟩
    have HLEN : Hid ((bfsL (netP v pn mn) f (srcN v mn) (snkN v mn + 1)).length ≤ 489) := Lib.hid (by
      have := bfs_len (room := roomL (netP v pn mn) f) (s := srcN v mn) (outs := outsL (netP v pn mn)) outs_from (N := snkN v mn + 1) (netP_ok HV.out hpn).src (fun _ _ h => (netP_ok HV.out hpn).stT h) (snkN v mn + 1)
      have h2 : (bfsL (netP v pn mn) f (srcN v mn) (snkN v mn + 1)).length + 1 ≤ snkN v mn + 1 := this
      unfold snkN at h2
      unfold snkN
      omega)
    clear HW2 hW2 hM hno hF hN4 H41 H40 H30 y0 y1 y2 y3 y4 x0 x1 x2 x3 x4 HBX HG2 HI2 hz2
    obtain ⟨k, hk⟩ : ∃ k, ktv v.n (srcN v mn) = k := ⟨_, rfl⟩
    obtain ⟨L, hL⟩ : ∃ L, netP v pn mn = L := ⟨_, rfl⟩
    obtain ⟨s, hs0⟩ : ∃ s, srcN v mn = s := ⟨_, rfl⟩
    obtain ⟨N, hN⟩ : ∃ N, snkN v mn + 1 = N := ⟨_, rfl⟩
    rw [hk, hL, hs0, hN] at hE2 HAns
    rw [hL, hs0, hN] at HLEN
    have hNb : N ≤ 1000 := by rw [← hN]; unfold snkN; omega
    clear hk hL hs0 hN hs
    refine wpIn_rangeFunc_turns (F := Fence.wide) (n := 9) okI okI_no rfl (by decide) (gf := 55) (lb := #[ptr (w5.heap.size + 1)]) rfl trivial (enters_of Tryd.func55 (by kernel_rfl) rfl)
      (reach_turns W2.heap.size (w3.heap.size + 1 + 1) w4.heap.size N (· = w5.heap.size) k L f d s (w5.heap.size + 1) hNb W2 (Nat.le_refl _) hE2) (fun h k => keepE_t h k) (keepE_b (Nat.le_refl _)) (Below.refl _ _) (fun _ => rfl)
      (fun pre W => (∃ u, Boxed W w5.heap.size 36 u ∧ W.ownsRow W2.heap.size 46 2 u pre.length (flat2 (stL k L (bfsL L f s N) pre))) ∧ Frm W2.heap.size (· = w5.heap.size) W2 W)
      (fun _ _ _ => False)
      (fun pre X Y row hs hg hr => ⟨(by
        obtain ⟨u, h1, h2⟩ := hs.1
        refine ⟨u, (hg.block _ (Array.getElem?_eq_some_iff.1 h1).1 (fun e => by have := (hr _ e.symm).1; omega)).trans h1, own_at h2 fun g e => hg.block g (by have := h2.lt g e; omega) fun e2 => ?_⟩
        obtain ⟨_, o, h3, h4⟩ := hr _ e2.symm
        obtain ⟨_, cur, h5⟩ := own_block h2 e
        rw [h5] at h3
        cases h3
        cases h4), hs.2.grown hg hs.2.size (fun r e => .inl (hr r e).1)⟩)
      (fun _ _ _ _ _ hs _ _ => hs)
      ⟨⟨_, hbx2, World.ownsRow_nil _ _ _ _⟩, Frm.refl _ _ _⟩
      (fun y a' W => ∃ Ba : Nat, W2.heap.size ≤ Ba ∧ Box W Ba [I (k.a (stT L (bfsL L f s N)[y])), I (k.b (stT L (bfsL L f s N)[y])), I (k.c (stT L (bfsL L f s N)[y]))] ∧ ∀ ya yb1 yc yb, k.a (stT L (bfsL L f s N)[y]) = ya → k.b (stT L (bfsL L f s N)[y]) = yb1 → k.c (stT L (bfsL L f s N)[y]) = yc → d.blk (bfsL L f s N)[y] = yb → a' = { tmps := #[visV v A1 A2 A3 q1 q2 q3, I pn, I mn, ptr w.heap.size, undef, undef, .slice none 0 0, .int .i64 0, ptr (w.heap.size + 1), I 0, .map (some d.b), ptr w5.heap.size, ptr Ba, I pn, I mn, sd pn mn, visV v A1 A2 A3 q1 q2 q3, sd pn mn, I 0, I 0, .bool false, undef, visV v A1 A2 A3 q1 q2 q3, sd pn mn, .map (some d.b), .map (some d.b), I val, .map (some d.b), .func (.func 55) #[] #[ptr (w5.heap.size + 1)], kn ya yb1 yc, ptr yb, undef, undef, undef, undef, undef, undef, undef, undef], defers := [] })
      (fun y a' _ X Y row hs hg hr => by
        obtain ⟨Ba, h1, h2, h3⟩ := hs
        exact ⟨Ba, h1, h2.grown hg (fun e => by obtain ⟨_, o, h4, h5⟩ := hr _ e; obtain ⟨c, t', z, h6⟩ := box_cells h2; rw [h6] at h4; cases h4; cases h5), h3⟩)
      ?assign ?body ?done ?stop
    case stop =>
      rintro D c pre W _ _ h _
      exact h.elim
    case assign =>
      rintro lp pre y W K ⟨⟨u, hu, hrow⟩, hF⟩ hK
      unfold encR at hK ⊢
      have hzW := hF.size
      obtain ⟨ya, hya⟩ : ∃ z, k.a (stT L (bfsL L f s N)[y]) = z := ⟨_, rfl⟩
      obtain ⟨yb1, hyb1⟩ : ∃ z, k.b (stT L (bfsL L f s N)[y]) = z := ⟨_, rfl⟩
      obtain ⟨yc, hyc⟩ : ∃ z, k.c (stT L (bfsL L f s N)[y]) = z := ⟨_, rfl⟩
      obtain ⟨yb, hyb⟩ : ∃ z, d.blk (bfsL L f s N)[y] = z := ⟨_, rfl⟩
      rw [hya, hyb1, hyc, hyb] at hK
      rw [hya, hyb1, hyc, hyb]
      have hK2 := Lib.hid (hK { tmps := #[visV v A1 A2 A3 q1 q2 q3, I pn, I mn, ptr w.heap.size, undef, undef, .slice none 0 0, .int .i64 0, ptr (w.heap.size + 1), I 0, .map (some d.b), ptr w5.heap.size, ptr W.heap.size, I pn, I mn, sd pn mn, visV v A1 A2 A3 q1 q2 q3, sd pn mn, I 0, I 0, .bool false, undef, visV v A1 A2 A3 q1 q2 q3, sd pn mn, .map (some d.b), .map (some d.b), I val, .map (some d.b), .func (.func 55) #[] #[ptr (w5.heap.size + 1)], kn ya yb1 yc, ptr yb, undef, undef, undef, undef, undef, undef, undef, undef], defers := [] } _ ((KeepsOthers.alloc W (.cells #[I ya, I yb1, I yc] 89)).from _) (KeepE.alloc hzW _) ⟨⟨u, hu.alloc _, hrow.alloc _⟩, hF.alloc hzW _⟩ ⟨W.heap.size, hzW, Box.new W [I ya, I yb1, I yc] 89, fun _ _ _ _ e1 e2 e3 e4 => by subst e1 e2 e3 e4; rfl⟩)
      clear hK
      gi_wp2
      exact hK2.out
    case body =>
      rintro lp pre y a' W hl ⟨r, hr⟩ ⟨⟨u, hu, hrow⟩, hF⟩ ⟨Ba, hBa, bA, hax⟩ hlt
      have HFS := Lib.hid (stL_snoc k L (bfsL L f s N) pre y)
      have hll := HLEN.out
      obtain ⟨ya, hya⟩ : ∃ z, k.a (stT L (bfsL L f s N)[y]) = z := ⟨_, rfl⟩
      obtain ⟨yb1, hyb1⟩ : ∃ z, k.b (stT L (bfsL L f s N)[y]) = z := ⟨_, rfl⟩
      obtain ⟨yc, hyc⟩ : ∃ z, k.c (stT L (bfsL L f s N)[y]) = z := ⟨_, rfl⟩
      obtain ⟨yb, hyb⟩ : ∃ z, d.blk (bfsL L f s N)[y] = z := ⟨_, rfl⟩
      obtain rfl := hax ya yb1 yc yb hya hyb1 hyc hyb
      clear hax
      rw [hya, hyb1, hyc] at bA
      rw [hya, hyb1] at HFS
      obtain ⟨k0, _⟩ := bA.at_ 0 _ rfl
      obtain ⟨k1, _⟩ := bA.at_ 1 _ rfl
      have hc := hu.cell
      have hsW := hF.size
      obtain ⟨xs, hxs⟩ : ∃ xs, flat2 (stL k L (bfsL L f s N) pre) = xs := ⟨_, rfl⟩
      have HXS := Lib.hid hxs
      rw [hxs] at hrow
      clear hya hyb1 hyc hyb hxs
      gi_wp2_with (gi_at_builtin; refine wpListIn_append_own _ rfl _ _ 36 rfl W2.heap.size 46 i0 (sd 0 0) 2 16 Tryd.underlying36 hi0 hi1 hi2 hi3 rfl (by decide) _ _ _ rfl (hrow.alloc _) ⟨W.heap.size, 0, none⟩ 1 1 [I ya, I yb1] rfl rfl (cells_new W [I ya, I yb1] 46) (by simp [Value.oneCell']) (by simp [maxLen]; omega) (by omega) (by simp; omega) ?_; intro v' w7 hown' hgrow _; obtain ⟨g', cap', rfl⟩ := ownsRow_succ hown'; have hB1 : w5.heap.size < W.heap.size := hu.lt; have hv1 : Boxed w7 w5.heap.size 36 u := (hu.alloc _).kept hgrow (hu.not_row (by decide) hrow); have hc1 := hv1.cell; have hf1 := hv1.frozen)
      have hga : W.grownBy (W.alloc (.cells #[I ya, I yb1] 46)) none := World.grownBy_alloc W _ none
      have hrowc : ∀ r, u.ownBlock = some r → W2.heap.size ≤ r ∧ ∃ o : Obj, (W.alloc (.cells #[I ya, I yb1] 46)).heap[r]? = some o ∧ okB o = true ∧ o.isCells = true := fun r e => by
        obtain ⟨h1, cur, h2⟩ := own_block (hrow.alloc (.cells #[I ya, I yb1] 46)) e
        exact ⟨h1, _, h2, rfl, rfl⟩
      refine ⟨?_, ?_, ⟨⟨_, hv1.set _, ?_⟩, ?_⟩⟩
      · exact (((KeepsOthers.alloc W _).trans (KeepsOthers.of_grownBy hgrow fun j o ej hj => by obtain ⟨_, o', h1, _, h2⟩ := hrowc j ej; rw [h1] at hj; cases hj; exact h2)).trans (KeepsOthers.setCell _ _ _)).from _
      · exact keepE_t (keepE_t (KeepE.alloc hsW _) (KeepE.grown hgrow (by simp; omega) (fun r e => .inr (by obtain ⟨h1, o, h2, h3, _⟩ := hrowc r e; exact ⟨h1, o, h2, h3⟩)))) (KeepE.grown (grownBy_setC w7 w5.heap.size 0 _) (by have := hgrow.size; simp at this; omega) (fun r e => .inl (by cases e; exact ⟨by omega, rfl⟩)))
      · rw [HFS.out, flat2_app, HXS.out, List.length_append, List.length_singleton]
        exact hown'.kept (grownBy_setCell' w7 w5.heap.size _) (.inr (hv1.not_row (by decide) hown').symm)
      · exact ((hF.alloc hsW _).grown hgrow (by simp; omega) (fun j e => .inl (hrowc j e).1)).setCell (.inr rfl) _
    case done =>
      rintro D ys W hD rfl ⟨⟨u, hu, hrow⟩, hF⟩ hK
      have hc := hu.cell
      have hsW := hF.size
      rw [List.length_finRange, stL_all] at hrow
      have hll := HLEN.out
      obtain ⟨us, hus⟩ : ∃ us, ((bfsL L f s N).map fun p => (k.a (stT L p), k.b (stT L p))) = us := ⟨_, rfl⟩
      rw [hus] at hrow HAns
      have hul : us.length = (bfsL L f s N).length := by rw [← hus]; simp
      rw [← hul] at hrow hll
      obtain ⟨A, c, rfl, hsort⟩ := sort_is W2.heap.size u us W hrow hsW (by omega)
      have HSO := Lib.hid hsort
      have HRW := Lib.hid hrow
      have hMD : Marks W2.heap.size [D] W := ⟨by simp, fun D' h => by
        obtain rfl : D' = D := by simpa using h
        exact ⟨hD, hK⟩⟩
      have HMD := Lib.hid hMD
      have hB1 : w5.heap.size < W.heap.size := hu.lt
      have HU := Lib.hid hu
      clear hus hul hrow hsort hMD hE2
      gi_wp2_with (first
        | (refine And.intro trivial ?_; gi_at_call 44; refine (callsIn_wide.2 HSO.out).mono ?_; rintro e w8 ⟨rfl, l', hperm, hsrt, htw, hB8, hF8, hfz⟩; have hu8 := (hF8.block w5.heap.size hB1 (fun e => by have := HRW.out.lt _ e; omega)).trans HU.out; have hc8 := Boxed.cell hu8)
        | fail)
      have hll' : l'.length = us.length := hperm.length_eq
      have HA8 := Lib.hid (HAns.out l' hperm hsrt)
      have HTW := Lib.hid htw
      have HFZ := Lib.hid hfz
      have hM8 : Marks W2.heap.size [D] w8 := HMD.out.keep fun D' hD' => hF8.block D' (HMD.out.lt D' hD') (fun e => by
        obtain ⟨_, cur, h5⟩ := own_block HRW.out e
        rw [(HMD.out.2 D' hD').2] at h5
        cases h5)
      have HB8 : Hid (Below w.heap.size w w8) := Lib.hid ((hBW2.trans (hF.below (by omega) (fun g h1 e => by omega))).trans (hB8.mono hBW2.size))
      clear hperm hsrt htw hfz HSO
      have HCAP : Hid (us.length ≤ c) := Lib.hid (own_cap HRW.out)
      refine leavesM_marks (B := W2.heap.size) [D] _ hM8 fun W' hB' hk' => ?_
      refine ⟨.tuple #[.slice A us.length c, I 0], by simp [results, Tryd.results18, go_sem], A, c, l', by rw [HE.out, hll'], HA8.out, ⟨?_, ?_⟩, HB8.out.trans (hB'.mono hBW2.size), by rw [hll']; exact HCAP.out⟩
      · intro h0
        obtain ⟨b, off, rfl, h1, h2⟩ := HTW.out h0
        have hbD : b ∉ [D] := fun hd => by
          have h3 := (h2 0 h0).1
          have h4 := (hM8.2 b hd).2
          simp [World.cell?, h4] at h3
        exact ⟨b, off, rfl, Nat.lt_of_lt_of_le h1 hB'.size, fun j hj => ⟨(World.cell?_of_block (a := ⟨b, _, none⟩) (hk' b hbD)).trans (h2 j hj).1, (World.cell?_of_block (a := ⟨b, _, none⟩) (hk' b hbD)).trans (h2 j hj).2⟩⟩
      · intro b off hA
        obtain ⟨h1, h2, h3⟩ := HFZ.out b off hA
        refine ⟨h1, by have := hBW2.size; omega, fun j hj => ?_⟩
        have hl0 : 0 < l'.length := by omega
        obtain ⟨b', off', hA', h4, h5⟩ := HTW.out hl0
        rw [hA] at hA'
        cases hA'
        have hbD : b ∉ [D] := fun hd => by
          have h3 := (h5 0 hl0).1
          have h4 := (hM8.2 b hd).2
          simp [World.cell?, h4] at h3
        rw [World.frozen?_of_block (a := ⟨b, _, none⟩) (hk' b hbD)]
        exact h3 j (by rw [← hll']; exact hj)
  · have HE : Hid (WallAns v p m []) := Lib.hid ⟨fun h => absurd h he, fun _ => rfl⟩
    obtain ⟨e0, he0⟩ : ∃ z, errN v p m = z := ⟨_, rfl⟩
    rw [he0] at H30 he ⊢
    clear he0
    have heb : (e0 == 0) = false := by simpa using he
    go_enter Tryd.func18, Tryd.ntmps18
    go_wp2_with (first
      | (go_at_call 30; refine H30.out.mono ?_; rintro e w3 ⟨rfl, hb3⟩; have hB3 := (HBX.out w3 hb3).2.2)
      | fail)
    refine bodyPost_ret (v := .tuple #[.slice none 0 0, I e0]) (by simp [results, Tryd.results18, go_sem]) rfl ⟨none, 0, [], rfl, HE.out, ⟨fun h => absurd h (by simp), fun b off h => by cases h⟩, hB3, Nat.zero_le _⟩
end Go.Proofs.YtomfnldlnoiloaaDoor
