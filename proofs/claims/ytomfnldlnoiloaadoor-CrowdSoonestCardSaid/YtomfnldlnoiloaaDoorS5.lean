/- The search as an iterator. -/
import Derived.Test.YtomfnldlnoiloaaDoorS4
namespace Go.Proofs.YtomfnldlnoiloaaDoor
set_option linter.unusedVariables false
set_option linter.unusedSimpArgs false
open Go Go.RowKit Go.Maps
attribute [local go_sem] Oper.semAt_some

theorem cells_new (W : World) (vs : List Value) (t : TypeId) : ∀ j u, vs[j]? = some u → (W.alloc (.cells vs.toArray t)).cell? ((⟨W.heap.size, 0, none⟩ : Addr).add j) = some u := by
  intro j u h
  rw [addr_plain, World.cell?_alloc_at _ _ _ _ _]
  · simpa using h
  · simp
theorem info89 : (Tryd.prog.info? 89).map (fun i => (i.zero, i.size, i.bytes)) = some (some (kn 0 0 0), 3, 24) := by kernel_rfl
def encR (k : Kt) (L : List Arc3) (d : Nt) (l : List Stp) (y : Fin l.length) : Array Value := #[kn (k.a (stT L l[y])) (k.b (stT L l[y])) (k.c (stT L l[y])), ptr (d.blk l[y])]
section
variable {n₀ base top N s Bn : Nat} {X : Nat → Prop} {k : Kt} {L : List Arc3} {f : Nat → Int} {d : Nt} {W W' : World}
/-- A node's row, as a slice. -/
theorem RcEnv.row (h : RcEnv n₀ X base top N k L f d s Bn W) {x : Nat} (hx : x < N) : ∃ RA rc, d.rv x = .slice RA (outsL L x).length rc ∧ ∀ j (hj : j < (outsL L x).length), ∃ rg, RA = some ⟨rg, 0, none⟩ ∧ ∀ W', FrX n₀ X W W' → W'.cell? ⟨rg, j, none⟩ = some (ptr (d.blk (outsL L x)[j])) := by
  have hr := h.net.row x hx
  rcases hr.2 with ⟨h1, h2⟩ | ⟨g, cap, cur, h1, h2, h3, h4⟩
  · exact ⟨none, 0, by rw [h1, h2], fun j hj => by omega⟩
  · refine ⟨_, cap, h1, fun j hj => ⟨g, rfl, fun W' hF => ?_⟩⟩
    have ho : (d.rv x).ownBlock = some g := by rw [h1]; rfl
    have hc := hr.cells ho j (ptr (d.blk (outsL L x)[j])) (by simp [hj])
    rw [addr_plain, Nat.zero_add] at hc
    rw [← hc]
    exact World.cell?_of_block (hF.old g (by have := h.net.rtop x hx g ho; have := h.tn.1; omega) (h.x g h2 (h.net.rtop x hx g ho)))
theorem RcEnv.lookup (h : RcEnv n₀ X base top N k L f d s Bn W) {x : Nat} (hx : x < N) : (Instr.lookup 77 (.map (some d.b)) (k.v x) false).run Tryd.prog W = .ok (d.rv x) W := by
  rw [h.net.map.lookup lawK Tryd.underlying77 (zero100 W) (h.kok.key x hx), h.net.get x hx]
end
set_option maxRecDepth 100000 in
set_option maxHeartbeats 8000000 in
theorem reach55_in (F : Fence) (n : Nat) (h55 : F.fn 55) (hro : F.round = none) (hn : 1 ≤ n) (n₀ base top N : Nat) (X : Nat → Prop) (k : Kt) (L : List Arc3) (f : Nat → Int) (d : Nt) (s Bn lp : Nat) (hNb : N ≤ 1000)
    (J Jx : List (Fin (bfsL L f s N).length) → World → Prop) (W : World) (hE : RcEnv n₀ X base top N k L f d s Bn W) (hz : n₀ ≤ W.heap.size)
    (hY : ∀ pre y W1, J pre W1 → pre.length < (bfsL L f s N).length → YieldAt F (n - 1) Tryd.prog lp (encR k L d (bfsL L f s N) y) W1 fun e W' =>
      (e = .returned (.bool true) ∧ J (pre ++ [y]) W' ∧ KeepE n₀ X W1 W') ∨ (e = .returned (.bool false) ∧ Jx (pre ++ [y]) W'))
    (hJ : AbidesOk okI W.heap.size J) (h0 : J [] W) :
    CallsIn F n Tryd.prog 55 #[.func (.yield lp) #[] #[], ptr Bn] W fun e W' => (∃ v, e = .returned v) ∧
      ((∃ ys, ys = List.finRange (bfsL L f s N).length ∧ J ys W') ∨ (∃ pre : List (Fin (bfsL L f s N).length), (∃ j, j < (bfsL L f s N).length ∧ pre = uptoF _ (j + 1)) ∧ Jx pre W')) := by
  obtain ⟨i0, hi0, hi1, hi2, hi3⟩ := info_parts info89
  have HE := Lib.hid hE
  have HY := Lib.hid hY
  have HJ := Lib.hid hJ
  have hBn : Bn < n₀ := hE.tn.2.1
  have hn2 : 2 ≤ n₀ := hE.tn.2.2
  have hbn := hE.bn
  have hWz : 0 < W.heap.size := by omega
  obtain ⟨gs0, gs1, gs2⟩ := hE.glob.s
  have hk0 : IsK Tryd.prog 89 (kn 0 0 1) := by
    have h1 := hE.kok.key s hE.ok.src
    rwa [Kt.v, hE.src.1, hE.src.2.1, hE.src.2.2] at h1
  have hmk := fun W => run_makeMap (P := Tryd.prog) 108 W
  have HST : Hid (∀ w1, MapAt Tryd.prog 89 w1 W.heap.size (0 + 1) (putF (fun _ => none) (kn 0 0 1) (.bool true)) → (W.alloc (.map #[] 0)).grownBy w1 (some W.heap.size) → w1.heap.size = W.heap.size + 1 →
      RcEnv n₀ X base top N k L f d s Bn w1 ∧ FrX n₀ X W (w1.alloc (.cells #[I 0, I 0, I 1] 89)) ∧ J [] (w1.alloc (.cells #[I 0, I 0, I 1] 89)) ∧ RcInv W.heap.size k (stT L) s N [] 0 (.slice (some ⟨w1.heap.size, 0, none⟩) 1 1) (w1.alloc (.cells #[I 0, I 0, I 1] 89))) := Lib.hid fun w1 hm1 hg1 hs1 => by
    have hF1 : FrX n₀ X W w1 := ((FrX.refl W).grown (World.grownBy_alloc W (.map #[] 0) none) hz (fun r e => by cases e)).grown hg1 (by simp; omega) (fun r e => by cases e; exact hz)
    have hJ1 : J [] w1 := hJ _ _ _ (some W.heap.size) (hJ _ _ _ none h0 (World.grownBy_alloc W (.map #[] 0) none) (fun r e => by cases e)) hg1 (fun r e => by cases e; exact ⟨Nat.le_refl _, _, (MapKept.heap_alloc W _).1, rfl⟩)
    refine ⟨hE.move hF1, hF1.grown (World.grownBy_alloc w1 _ none) (by omega) (fun r e => by cases e), hJ _ _ _ none hJ1 (World.grownBy_alloc w1 _ none) (fun r e => by cases e), ⟨_, _, hm1.alloc _, fun x hx => ?_⟩, ?_⟩
    · by_cases e : x = s
      · subst e
        rw [if_pos (by simp [ordS]), Kt.v, hE.src.1, hE.src.2.1, hE.src.2.2, putF_same]
      · rw [if_neg (by simpa [ordS] using e), putF_other fun e2 => e (hE.kok.inj x s hx hE.ok.src (by rw [e2, Kt.v, hE.src.1, hE.src.2.1, hE.src.2.2]))]
    · have e : flatK k ((ordS (stT L) s []).drop 0) = [I 0, I 0, I 1] := by
        show [I (k.a s), I (k.b s), I (k.c s)] = _
        rw [hE.src.1, hE.src.2.1, hE.src.2.2]
      rw [e]
      refine ⟨rfl, ⟨w1.heap.size, 0, none⟩, 1, rfl, by simp, by decide, fun _ => ⟨w1.heap.size, 0, _, rfl, by omega, (MapKept.heap_alloc w1 _).1, by simp⟩, cells_new w1 [I 0, I 0, I 1] 89⟩
  clear hJ hY hE
  refine callsIn_of_wp Tryd.func55 rfl h55 ?_ hro
  simp only [Tryd.ntmps55, List.size_toArray, List.length_cons, List.length_nil, Nat.reduceAdd, Nat.reduceSub, Array.replicate_succ, Array.replicate_zero, List.push_toArray, List.append_toArray, List.nil_append, List.cons_append]
  gi_wp2_with (first
    | (refine wpListIn_store_at _ rfl _ _ _ 108 (.inr rfl) 4 lawK Tryd.underlying108 W.heap.size 0 (fun _ => none) rfl (MapAt.new W _ _) (kn 0 0 1) (.bool true) rfl rfl hk0 ?_; intro w1 hm1 hg1 hs1; rw [World.size_alloc] at hs1; have HS1 := Lib.hid (HST.out w1 hm1 hg1 hs1); obtain ⟨hs0, hs01, hs02⟩ := HS1.out.1.glob.s; clear hm1 hg1 hs1)
    | fail)
  clear HST hmk gs0 gs1 gs2 hs0 hs01 hs02
  have HB0 : Hid (([] : List Stp) = bfsL L f s 0) := Lib.hid rfl
  gi_loopg [4] (N + 1) (fun g q4 wr => ∃ (kk : Nat) (ys : List Stp), Hid (g + kk = N + 1 ∧ kk ≤ ys.length + 1 ∧ ys = bfsL L f s kk) ∧ Hid (RcInv W.heap.size k (stT L) s N ys kk q4 wr) ∧ Hid (J (uptoF (bfsL L f s N).length ys.length) wr) ∧ Hid (FrX n₀ X W wr))
  case atStart => exact ⟨0, [], Lib.hid ⟨rfl, by simp, rfl⟩, Lib.hid HS1.out.2.2.2, Lib.hid HS1.out.2.2.1, Lib.hid HS1.out.2.1⟩
  case round =>
    obtain ⟨kk, ys, HA, HR, HJ0, HF⟩ := hrel
    clear HS1 HB0 h0
    have hlN : ys.length + 1 ≤ N := by rw [HA.out.2.2]; exact bfs_len outs_from HE.out.ok.src (fun _ _ h => HE.out.ok.stT h) kk
    have hzr : n₀ ≤ wr.heap.size := by have := HF.out.size; omega
    have hBz : Bn < wr.heap.size := by omega
    have HEr := Lib.hid (HE.out.move HF.out)
    have hbr := HEr.out.bn
    by_cases hlt : kk < ys.length + 1
    · obtain ⟨nn, hnn⟩ : ∃ nn, ys.length + 1 - kk = nn + 1 := ⟨ys.length - kk, by omega⟩
      have hkl : kk < (ordS (stT L) s ys).length := by rw [ordS_len]; exact hlt
      obtain ⟨x, hx⟩ : ∃ x, (ordS (stT L) s ys)[kk] = x := ⟨_, rfl⟩
      have HX : Hid ((ordS (stT L) s ys)[kk]? = some x) := Lib.hid (by rw [List.getElem?_eq_getElem hkl, hx])
      have hxN : x < N := by
        have hm : x ∈ ordS (stT L) s ys := by rw [← hx]; exact List.getElem_mem hkl
        unfold ordS at hm
        rcases List.mem_cons.1 hm with rfl | hm
        · exact HE.out.ok.src
        · obtain ⟨p, hp, rfl⟩ := List.mem_map.1 hm
          rw [HA.out.2.2] at hp
          obtain ⟨y, hy⟩ := bfs_mem hp
          exact HE.out.ok.stT hy
      have hq := HR.out.q
      rw [hnn, List.drop_eq_getElem_cons hkl, hx, flatK_cons] at hq
      obtain ⟨qg, qo, qc, rfl, hqc, hqt⟩ := queue_pop hq
      have hd3 : (I (k.a x) :: I (k.b x) :: I (k.c x) :: flatK k ((ordS (stT L) s ys).drop (kk + 1))).drop 3 = flatK k ((ordS (stT L) s ys).drop (kk + 1)) := rfl
      rw [hd3] at hqt
      have q0 := hqc 0 _ rfl
      have q1 := hqc 1 _ rfl
      have q2 := hqc 2 _ rfl
      rw [Nat.add_zero] at q0
      have hlk := (HEr.out.move ((FrX.refl wr).grown (World.grownBy_alloc wr (.cells #[I (k.a x), I (k.b x), I (k.c x)] 89) none) hzr (fun r e => by cases e))).lookup hxN
      obtain ⟨RA, rc, hrv, hrc⟩ := HE.out.row hxN
      rw [hrv] at hlk
      have HRC := Lib.hid hrc
      have hsl := fun W => slice109 (some ⟨qg, qo, none⟩) (nn + 1) qc (by omega) W
      obtain ⟨Q', hQ'⟩ : ∃ Q', sliced (some ⟨qg, qo, none⟩) 1 (nn + 1) qc 3 = Q' := ⟨_, rfl⟩
      rw [hQ'] at hsl hqt
      obtain ⟨xa, hxa⟩ : ∃ z, k.a x = z := ⟨_, rfl⟩
      obtain ⟨xb, hxb⟩ : ∃ z, k.b x = z := ⟨_, rfl⟩
      obtain ⟨xc, hxc⟩ : ∃ z, k.c x = z := ⟨_, rfl⟩
      rw [Kt.v, hxa, hxb, hxc] at hlk
      rw [hxa] at q0
      rw [hxb] at q1
      rw [hxc] at q2
      obtain ⟨l, hl⟩ : ∃ l, outsL L x = l := ⟨_, rfl⟩
      rw [hl] at hlk HRC
      have hll : l.length ≤ 8000 := by rw [← hl]; have := outsL_lt (L := L) (x := x); have := HE.out.len; omega
      have n0 : (0 : Int) < ((nn + 1 : Nat) : Int) := by omega
      have HI0 : Hid (RcInv W.heap.size k (stT L) s N (scans (stT L) (roomL L f) s ys (l.take 0)) (kk + 1) Q' (wr.alloc (.cells #[I xa, I xb, I xc] 89))) := Lib.hid (by
        obtain ⟨⟨nS, fS, m1, m2⟩, _⟩ := HR.out
        refine ⟨⟨nS, fS, m1.alloc _, m2⟩, ?_⟩
        rw [List.take_zero, scans_nil, show ys.length + 1 - (kk + 1) = nn by omega]
        exact hqt.keep (fun g cur _ _ hg => (Below.heap_alloc wr _ g (Array.getElem?_eq_some_iff.1 hg).1)) (by decide))
      have HJ1 : Hid (J (uptoF (bfsL L f s N).length (scans (stT L) (roomL L f) s ys (l.take 0)).length) (wr.alloc (.cells #[I xa, I xb, I xc] 89))) := Lib.hid (HJ.out _ _ _ none HJ0.out (World.grownBy_alloc wr _ none) (fun r e => by cases e))
      have HF1 : Hid (FrX n₀ X W (wr.alloc (.cells #[I xa, I xb, I xc] 89))) := Lib.hid (HF.out.grown (World.grownBy_alloc wr _ none) hzr (fun r e => by cases e))
      clear hq hqc hqt hrc hrv hd3 hQ' hxa hxb hxc hx
      gi_wp2
      obtain ⟨wk, hwk⟩ : ∃ wk, wr.alloc (.cells #[I xa, I xb, I xc] 89) = wk := ⟨_, rfl⟩
      rw [hwk] at HI0 HJ1 HF1
      gi_loopw [25, 4] (fun i q4 wi => ∃ j : Nat, i = I j ∧ j ≤ l.length ∧ Hid (RcInv W.heap.size k (stT L) s N (scans (stT L) (roomL L f) s ys (l.take j)) (kk + 1) q4 wi) ∧ Hid (J (uptoF (bfsL L f s N).length (scans (stT L) (roomL L f) s ys (l.take j)).length) wi) ∧ Hid (FrX n₀ X W wi)) (fun i _ _ => l.length - (intOf i).toNat)
      case atStart => exact ⟨0, rfl, by omega, by rw [hwk]; exact HI0, by rw [hwk]; exact HJ1, by rw [hwk]; exact HF1⟩
      case round =>
        obtain ⟨j, rfl, hj, HRi, HJi, HFi⟩ := hrel
        clear HI0 HJ1 HF1 hlk q0 q1 q2 hsl hbr
        have hzi : n₀ ≤ wr.heap.size := by have := HFi.out.size; omega
        by_cases hjl : j < l.length
        · obtain ⟨p, hp⟩ : ∃ p, l[j] = p := ⟨_, rfl⟩
          have hpo : p ∈ outsL L x := by rw [hl, ← hp]; exact List.getElem_mem hjl
          have hpL : p.1 < L.length := (outsL_mem.1 hpo).1
          have htN : stT L p < N := HE.out.ok.stT hpo
          obtain ⟨ys', hys'⟩ : ∃ ys', scans (stT L) (roomL L f) s ys (l.take j) = ys' := ⟨_, rfl⟩
          have hkys : kk ≤ ys'.length := by
            have h1 := (scans_pre (to_ := stT L) (room := roomL L f) (s := s) (l.take j) ys).length_le
            rw [hys'] at h1
            omega
          have HSC : Hid (scans (stT L) (roomL L f) s ys (l.take (j + 1)) = scan (stT L) (roomL L f) s ys' p) := Lib.hid (by
            rw [List.take_succ_eq_append_getElem hjl, scans_app, hys', hp]
            rfl)
          have HPRE : Hid (scan (stT L) (roomL L f) s ys' p <+: bfsL L f s N) := Lib.hid (by
            rw [← HSC.out, HA.out.2.2]
            have h1 : scans (stT L) (roomL L f) s (bfsL L f s kk) (l.take (j + 1)) <+: scans (stT L) (roomL L f) s (bfsL L f s kk) l := by
              have e : l = l.take (j + 1) ++ l.drop (j + 1) := (List.take_append_drop _ _).symm
              conv => rhs; rw [e, scans_app]
              exact scans_pre _ _
            have h2 : bfsL L f s (kk + 1) = scans (stT L) (roomL L f) s (bfsL L f s kk) l := by
              rw [← hl]
              exact bfs_some (by have := HX.out; rw [HA.out.2.2] at this; exact this)
            rw [← h2] at h1
            have h3 := bfs_pre (to_ := stT L) (room := roomL L f) (outs := outsL L) (s := s) (k := kk + 1) (N - (kk + 1))
            rw [show kk + 1 + (N - (kk + 1)) = N by omega] at h3
            exact h1.trans h3)
          rw [hys'] at HRi HJi
          clear hys'
          have HEi := Lib.hid (HE.out.move HFi.out)
          obtain ⟨⟨a0, a1, a2⟩, a3, _⟩ := HEi.out.arcs hpL
          have hlks := HRi.out.lookup HE.out.kok htN
          obtain ⟨rg, hRA, hrcW⟩ := HRC.out j hjl
          subst hRA
          have hrow := hrcW wr HFi.out
          rw [hp] at hrow
          clear hrcW
          obtain ⟨B, hB⟩ : ∃ B, d.blk p = B := ⟨_, rfl⟩
          obtain ⟨z, hz0⟩ : ∃ z, roomL L f p = z := ⟨_, rfl⟩
          obtain ⟨ta, hta⟩ : ∃ z, k.a (stT L p) = z := ⟨_, rfl⟩
          obtain ⟨tb, htb⟩ : ∃ z, k.b (stT L p) = z := ⟨_, rfl⟩
          obtain ⟨tc, htc⟩ : ∃ z, k.c (stT L p) = z := ⟨_, rfl⟩
          have HKV : Hid (k.v (stT L p) = kn ta tb tc) := Lib.hid (by rw [Kt.v, hta, htb, htc])
          rw [HKV.out] at hlks
          rw [hB, hta] at a0
          rw [hB, htb] at a1
          rw [hB, htc] at a2
          rw [hB, hz0] at a3
          rw [hB] at hrow
          have hwj : IntKind.i64.wrap ((j : Int) + 1) = (j : Int) + 1 := IntWalk.i64_in _ (by omega)
          have j0 : (0 : Int) ≤ (j : Int) := by omega
          have j1 : (j : Int) < (l.length : Int) := by omega
          by_cases hzz : z = 0
          · subst hzz
            have HS2 : Hid (scans (stT L) (roomL L f) s ys (l.take (j + 1)) = ys') := Lib.hid (by rw [HSC.out, scan, if_pos (.inl hz0)])
            clear HSC HPRE hz0 hlks
            gi_wp2
            go_roundw
            case rel => exact ⟨j + 1, by go_num, by omega, by rw [HS2.out]; exact HRi, by rw [HS2.out]; exact HJi, HFi⟩
            case measure => simp [intOf]; omega
          · have hzb : (z == 0) = false := by simpa using hzz
            by_cases hm : stT L p ∈ ordS (stT L) s ys'
            · rw [decide_eq_true hm] at hlks
              have HS2 : Hid (scans (stT L) (roomL L f) s ys (l.take (j + 1)) = ys') := Lib.hid (by rw [HSC.out, scan, if_pos (.inr hm)])
              clear HSC HPRE hz0 hm hzz
              gi_wp2
              go_roundw
              case rel => exact ⟨j + 1, by go_num, by omega, by rw [HS2.out]; exact HRi, by rw [HS2.out]; exact HJi, HFi⟩
              case measure => simp [intOf]; omega
            · rw [decide_eq_false hm] at hlks
              have HS2 : Hid (scans (stT L) (roomL L f) s ys (l.take (j + 1)) = ys' ++ [p]) := Lib.hid (by rw [HSC.out, scan, if_neg (fun e => e.elim (fun e => hzz (by rw [← hz0]; exact e)) hm)])
              have hpf : ys' ++ [p] <+: bfsL L f s N := by
                have := HPRE.out
                rwa [scan, if_neg (fun e => e.elim (fun e => hzz (by rw [← hz0]; exact e)) hm)] at this
              have hyl : ys'.length < (bfsL L f s N).length := by have := hpf.length_le; simp at this; omega
              have hyp : (bfsL L f s N)[ys'.length] = p := by
                have := hpf.getElem (i := ys'.length) (by simp)
                rw [← this]
                simp
              have HYk : Hid (∀ W1, J (uptoF (bfsL L f s N).length ys'.length) W1 → YieldAt F (n - 1) Tryd.prog lp #[kn ta tb tc, ptr B] W1 fun e W' => (e = .returned (.bool true) ∧ J (uptoF (bfsL L f s N).length (ys'.length + 1)) W' ∧ KeepE n₀ X W1 W') ∨ (e = .returned (.bool false) ∧ Jx (uptoF (bfsL L f s N).length (ys'.length + 1)) W')) := Lib.hid fun W1 h => by
                have := HY.out _ ⟨_, hyl⟩ W1 h (by rw [uptoF_len (Nat.le_of_lt hyl)]; exact hyl)
                rw [uptoF_succ hyl]
                have e1 : encR k L d (bfsL L f s N) ⟨_, hyl⟩ = #[kn ta tb tc, ptr B] := by
                  unfold encR
                  simp only [Fin.getElem_fin, hyp, hta, htb, htc, hB]
                rwa [e1] at this
              obtain ⟨⟨nS, fS, hmS, hfS⟩, hqi⟩ := HRi.out
              have HfS := Lib.hid hfS
              have Hqi := Lib.hid hqi
              have hkt : IsK Tryd.prog 89 (kn ta tb tc) := by rw [← HKV.out]; exact HE.out.kok.key _ htN
              have HBF : Hid (∀ W', FrX n₀ X W W' → (W'.cell? ⟨B, 0, none⟩ = some (I ta) ∧ W'.cell? ⟨B, 1, none⟩ = some (I tb) ∧ W'.cell? ⟨B, 2, none⟩ = some (I tc)) ∧ B < n₀) := Lib.hid fun W' h => by
                obtain ⟨⟨h0, h1, h2⟩, _⟩ := (HE.out.move h).arcs hpL
                rw [hB, hta] at h0
                rw [hB, htb] at h1
                rw [hB, htc] at h2
                refine ⟨⟨h0, h1, h2⟩, ?_⟩
                have h3 := (HE.out.net.ab p hpL).2
                have h4 := HE.out.tn.1
                rw [hB] at h3
                omega
              have HKN : Hid (∀ y, y < N → k.v y = kn ta tb tc → y = stT L p) := Lib.hid fun y hy e => HE.out.kok.inj y _ hy htN (by rw [e, HKV.out])
              have hBn0 := (HBF.out _ HFi.out).2
              clear HSC HPRE hz0 hfS hqi hp hB hta htb htc hm hzz hyp hpf
              gi_wp2_with (first
                | (refine wpListIn_store_at _ rfl _ _ _ 108 (.inl rfl) 4 lawK Tryd.underlying108 W.heap.size nS fS rfl hmS (kn ta tb tc) (.bool true) rfl rfl hkt ?_; intro w1 hm1 hg1 hs1; have HF1 := Lib.hid (HFi.out.grown hg1 hzi (fun r e => by cases e; exact hz)); obtain ⟨fn, tmps, assign, body, hy, hR⟩ := HYk.out w1 (HJ.out _ _ _ _ HJi.out hg1 (fun r e => by cases e; obtain ⟨es, ck, hbb, _⟩ := hmS; exact ⟨Nat.le_refl _, _, hbb, rfl⟩)); replace hR := Lib.hid hR; obtain ⟨⟨c0, c1, c2⟩, _⟩ := HBF.out _ HF1.out)
                | fail)
              refine hR.out.mono ?_
              rintro e W3 (⟨rfl, hJ3, hk3⟩ | ⟨rfl, hJx3⟩)
              · have hF3 := HF1.out.keep hk3
                obtain ⟨⟨b0, b1, b2⟩, _⟩ := HBF.out _ hF3
                have hz3 : n₀ ≤ W3.heap.size := by have := hF3.size; omega
                have hq3 : QueueAt W3 W.heap.size 89 3 u4 (ys'.length + 1 - (kk + 1)) (flatK k ((ordS (stT L) s ys').drop (kk + 1))) := (Hqi.out.keep (fun g cur _ _ hg => hg1.block g (Array.getElem?_eq_some_iff.1 hg).1 (fun e => by cases e; exact hmS.not_cells hg rfl)) (by decide)).keep (fun g cur _ hb hg => by rw [hg]; exact hk3.new _ _ (by omega) hg rfl) (by decide)
                have hm3 : MapAt Tryd.prog 89 W3 W.heap.size (nS + 1) (putF fS (kn ta tb tc) (.bool true)) := by
                  obtain ⟨es, ck, hbb, h4⟩ := hm1
                  exact ⟨es, ck, hk3.new _ _ hz hbb rfl, h4⟩
                have hBn3 : B < W3.heap.size := by omega
                have hyb : ys'.length ≤ 1000 := by
                  have := bfs_len (room := roomL L f) (s := s) outs_from HE.out.ok.src (fun _ _ h => HE.out.ok.stT h) N
                  have h2 : (bfsL L f s N).length + 1 ≤ N := this
                  omega
                have HF3 := Lib.hid hF3
                have hW3 : W.heap.size ≤ W3.heap.size := hF3.size
                clear a0 a1 a2 a3 c0 c1 c2 hrow hlks hy hR hk3 hm1 hg1 hs1 hmS hF3
                gi_wp2_with (gi_at_builtin; refine wpListIn_append_queue _ rfl _ _ 109 rfl W.heap.size 89 i0 (kn 0 0 0) 3 24 Tryd.underlying109 hi0 hi1 hi2 hi3 rfl (by decide) _ _ _ rfl (hq3.keep (fun g cur _ _ hg => Below.heap_alloc W3 _ g (Array.getElem?_eq_some_iff.1 hg).1) (by decide)) ⟨W3.heap.size, 0, none⟩ 1 1 [I ta, I tb, I tc] rfl rfl (cells_new W3 [I ta, I tb, I tc] 89) (by simp [Value.oneCell']) (by decide) (by unfold maxLen; omega) (by omega) (by simp; omega) ?_; intro v5 w5 row5 hq5 hg5 hr5)
                have hga : W3.grownBy (W3.alloc (.cells #[I ta, I tb, I tc] 89)) none := World.grownBy_alloc W3 _ none
                have HRf : Hid (RcInv W.heap.size k (stT L) s N (ys' ++ [p]) (kk + 1) v5 w5) := Lib.hid (by
                  refine ⟨⟨nS + 1, _, (hm3.alloc _).heap (hg5.block _ (by have := (hm3.alloc (.cells #[I ta, I tb, I tc] 89)).lt; exact this) (fun e => ?_)), fun y hy => ?_⟩, ?_⟩
                  · obtain ⟨_, cur, hc⟩ := hr5 _ e.symm
                    exact (hm3.alloc _).not_cells hc rfl
                  · by_cases e : y = stT L p
                    · subst e
                      rw [HKV.out, putF_same, if_pos (by rw [ordS_app]; simp)]
                    · rw [putF_other (fun e2 => e (HKN.out y hy e2)), HfS.out y hy, ordS_app]
                      by_cases e3 : y ∈ ordS (stT L) s ys'
                      · rw [if_pos e3, if_pos (by simp [e3])]
                      · rw [if_neg e3, if_neg (by simp [e3, e])]
                  · rw [ordS_app, List.drop_append_of_le_length (by rw [ordS_len]; omega), flatK_app, List.length_append, List.length_singleton, show ys'.length + 1 + 1 - (kk + 1) = ys'.length + 1 - (kk + 1) + 1 by omega]
                    have e1 : flatK k ([p].map (stT L)) = [I ta, I tb, I tc] := by
                      have := HKV.out
                      simp only [Kt.v, kn, Value.agg.injEq, Array.mk.injEq, List.cons.injEq, Value.int.injEq, true_and, and_true] at this
                      simp [flatK, this]
                    rw [e1]
                    exact hq5)
                have HJf : Hid (J (uptoF (bfsL L f s N).length (ys' ++ [p]).length) w5) := Lib.hid (by
                  rw [List.length_append, List.length_singleton]
                  exact HJ.out _ _ _ _ (HJ.out _ _ _ none hJ3 hga (fun r e => by cases e)) hg5 (fun r e => by obtain ⟨h1, cur, h2⟩ := hr5 r e; exact ⟨h1, _, h2, rfl⟩))
                have HFf : Hid (FrX n₀ X W w5) := Lib.hid ((HF3.out.grown hga hz3 (fun r e => by cases e)).grown hg5 (by simp; omega) (fun r e => by have := (hr5 r e).1; omega))
                clear hq5 hg5 hr5 hq3 hm3 hJ3
                go_roundw
                case rel => exact ⟨j + 1, by go_num, by omega, by rw [HS2.out]; exact HRf, by rw [HS2.out]; exact HJf, HFf⟩
                case measure => simp [intOf]; omega
              · gi_wp2
                refine bodyPost_ret (results_none rfl _ _ _) rfl ?_
                exact ⟨⟨_, rfl⟩, .inr ⟨_, ⟨_, hyl, rfl⟩, hJx3⟩⟩
        · obtain rfl : j = l.length := by omega
          rw [List.take_length] at HRi HJi
          have HB1 : Hid (gk - 1 + (kk + 1) = N + 1 ∧ kk + 1 ≤ (scans (stT L) (roomL L f) s ys l).length + 1 ∧ scans (stT L) (roomL L f) s ys l = bfsL L f s (kk + 1)) := Lib.hid (by
            have h1 := (scans_pre (to_ := stT L) (room := roomL L f) (s := s) l ys).length_le
            have h2 := HA.out
            refine ⟨by omega, by omega, ?_⟩
            rw [← hl, h2.2.2]
            exact (bfs_some (by have := HX.out; rw [h2.2.2] at this; exact this)).symm)
          have hgk : gk - 1 < gk := by have := HA.out; omega
          clear HA HX hl
          gi_wp2
          gi_roundg (gk - 1)
          case measure => exact hgk
          case rel => exact ⟨kk + 1, _, HB1, HRi, HJi, HFi⟩
    · have HJe : Hid (J (List.finRange (bfsL L f s N).length) wr) := Lib.hid (by
        have h2 := HA.out.2.2
        have h1 : bfsL L f s kk = bfsL L f s N := bfs_end (N := N) (by show (bfsL L f s kk).length + 1 ≤ kk; have := HA.out.2.1; rw [← h2]; omega) (by have := HA.out.2.1; omega)
        have h3 := HJ0.out
        rw [h2, h1, uptoF_all] at h3
        exact h3)
      obtain ⟨_, ad, cap, hv, _⟩ := HR.out.q
      rw [show ys.length + 1 - kk = 0 by omega] at hv
      clear HR
      subst hv
      gi_wp2
      go_end0
      exact ⟨⟨_, rfl⟩, .inl ⟨_, rfl, HJe.out⟩⟩
end Go.Proofs.YtomfnldlnoiloaaDoor
