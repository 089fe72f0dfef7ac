/- fill: as many people go as can. -/
import Derived.Test.YtomfnldlnoiloaaDoorSq
namespace Go.Proofs.YtomfnldlnoiloaaDoor
set_option linter.unusedVariables false
set_option linter.unusedSimpArgs false
open Go Go.RowKit Go.Maps
attribute [local go_sem] Oper.semAt_some

/-- fill's network between two rounds. -/
structure FlAt (base top N : Nat) (k : Kt) (L : List Arc3) (s t : Nat) (d : Nt) (w : World) (f : Nat → Int) (val : Int) (W : World) : Prop where
  net : NetAt base top N L.length k (stT L) (outsL L) (roomL L f) d W
  bl : Below base w W
  flow : FlowL L N s t f
  v : val = outAt (frL L) (toL L) f L.length s
theorem FlAt.move {base top N : Nat} {k : Kt} {L : List Arc3} {s t : Nat} {d : Nt} {w : World} {f : Nat → Int} {val : Int} {W W' : World} (h : FlAt base top N k L s t d w f val W) {n : Nat} {S : Nat → Prop} (hF : Frm n S W W') (hn : top ≤ n) (hS : ∀ g, S g → top ≤ g) : FlAt base top N k L s t d w f val W' := by
  have hb : base ≤ top := by have := h.net.mb; omega
  refine ⟨h.net.keep (fun g _ h2 => hF.block g (by omega) (fun e => by have := hS g e; omega)) hF.size, h.bl.trans (hF.below (by omega) fun g hg e => by have := hS g e; omega), h.flow, h.v⟩
theorem byF_none {L : List Arc3} {d : Nt} {fin : List Stp} {pre : List (Fin fin.length)} {x : Nat} (h : ∀ y, y ∈ pre → stT L fin[y] ≠ x) : byF L d fin pre x = none := by
  unfold byF
  rw [List.find?_eq_none.2 fun y hy => by simpa using h y (List.mem_reverse.1 hy)]
  rfl
theorem three_cells {w : World} {b : Nat} {x y z : Value} {t : TypeId} (h : w.heap[b]? = some (.cells #[x, y, z] t (0, 0))) : w.cell? ⟨b, 0, none⟩ = some x ∧ w.cell? ⟨b, 1, none⟩ = some y ∧ w.cell? ⟨b, 2, none⟩ = some z := by
  simp [World.cell?, h]
/-- A row of pointers, as a slice. -/
theorem way_row {w : World} {b n : Nat} {v : Value} {xs : List Value} (h : w.ownsRow b 99 1 v n xs) : ∃ RA rc, v = .slice RA n rc ∧ ∀ j u, xs[j]? = some u → ∃ rg, RA = some ⟨rg, 0, none⟩ ∧ b ≤ rg ∧ rg < w.heap.size ∧ w.cell? ⟨rg, j, none⟩ = some u := by
  rcases h.2 with ⟨h1, h2⟩ | ⟨g, cap, cur, h1, h2, h3, h4⟩
  · refine ⟨none, 0, by rw [h1, h2], fun j u hu => ?_⟩
    have := h.1
    have hj := (List.getElem?_eq_some_iff.1 hu).1
    omega
  · refine ⟨_, cap, h1, fun j u hu => ⟨g, rfl, h2, (Array.getElem?_eq_some_iff.1 h3).1, ?_⟩⟩
    have hc := h.cells (g := g) (by rw [h1]; rfl) j u hu
    rw [addr_plain, Nat.zero_add] at hc
    exact hc
theorem flip_to (L : List Arc3) (p : Stp) : stT L (flipS p) = stF L p := by
  obtain ⟨i, b⟩ := p
  cases b <;> rfl
set_option maxRecDepth 100000 in
set_option maxHeartbeats 16000000 in
theorem fill41 (base top N : Nat) (k : Kt) (L : List Arc3) (s t : Nat) (d : Nt) (w : World) (hN : NetAt base top N L.length k (stT L) (outsL L) (roomL L fun _ => 0) d w) (hok : NetOk L N s) (hk : KtOk k N) (hks : k.a s = 0 ∧ k.b s = 0 ∧ k.c s = 1) (htN : t < N) (hkt : k.a t = 0 ∧ k.b t = 0 ∧ k.c t = 2)
    (hG : GlobOk w) (hb2 : 2 ≤ base) (hst : s ≠ t) (hmax : widL (fun x => x != t) L ≤ 1000) (hlen : L.length ≤ 4000) (hNb : N ≤ 1000) :
    Calls Tryd.prog 41 #[.map (some d.b)] w fun e w' => ∃ (f : Nat → Int) (val : Int), e = .returned (I val) ∧ FlAt base top N k L s t d w f val w' ∧ t ∉ ordL L s (bfsL L f s N) := by
  have hbt : base ≤ top := by have := hN.mb; omega
  have htw : top ≤ w.heap.size := hN.top
  have HF0 : Hid (FlAt base top N k L s t d w (fun _ => 0) 0 w) := Lib.hid ⟨hN, Below.refl _ _, (flow_zero hok).1, ((flow_zero (t := t) hok).2).symm⟩
  have HOK := Lib.hid hok
  have HK := Lib.hid hk
  have HKS := Lib.hid hks
  have HKT := Lib.hid hkt
  have HG := Lib.hid hG
  have HM := Lib.hid hmax
  clear hN hok hk hks hkt hG hmax
  have hmk := fun W => run_makeMap (P := Tryd.prog) 98 W
  obtain ⟨i0, hi0, hi1, hi2, hi3⟩ := info_parts info99
  refine (callsIn_wide (n := 9)).1 ?_
  refine callsIn_of_wp_marks Tryd.func41 rfl trivial ?_ rfl
  refine wpIn_mono (Q := postM _ _ _ _ _) ?_ postM_of
  simp only [Tryd.ntmps41, List.size_toArray, List.length_cons, List.length_nil, Nat.reduceAdd, Nat.reduceSub, Array.replicate_succ, Array.replicate_zero, List.push_toArray, List.append_toArray, List.nil_append, List.cons_append]
  gi_wp2
  refine wpIn_loop_ghost (fun g a wr => ∃ (Ds : List Nat) (u2 u3 u4 u5 u6 u7 u8 u10 u11 u12 u13 u14 u15 u16 u17 u18 u19 u20 u21 u22 u23 u24 u25 u26 u27 u28 u29 u30 u31 u32 u33 u34 u35 u36 u37 u38 u39 u40 u41 u42 u43 u44 u45 u46 u47 u48 u49 u50 u51 u52 u53 u54 u55 u56 u57 u58 u59 u60 u61 u62 u63 u64 u65 u66 u67 u68 u69 u70 u71 u72 u73 u74 u75 u76 u77 u78 u79 u80 u81 u82 u83 : Value) (f : Nat → Int) (val : Int), (u2 = I val ∧ Hid ((g : Int) + val = 1000 ∧ 0 ≤ val) ∧ Hid (FlAt base top N k L s t d w f val wr) ∧ Hid (Marks top Ds wr)) ∧
      a = { tmps := #[.map (some d.b), undef, u2, u3, u4, u5, u6, u7, u8, undef, u10, u11, u12, u13, u14, u15, u16, u17, u18, u19, u20, u21, u22, u23, u24, u25, u26, u27, u28, u29, u30, u31, u32, u33, u34, u35, u36, u37, u38, u39, u40, u41, u42, u43, u44, u45, u46, u47, u48, u49, u50, u51, u52, u53, u54, u55, u56, u57, u58, u59, u60, u61, u62, u63, u64, u65, u66, u67, u68, u69, u70, u71, u72, u73, u74, u75, u76, u77, u78, u79, u80, u81, u82, u83], defers := Ds.map markOf }) 1000 ?_ ?_
  · refine ⟨[], ?_⟩
    (repeat apply Exists.intro)
    refine ⟨⟨rfl, Lib.hid ⟨rfl, Int.le_refl _⟩, HF0, Lib.hid ⟨List.nodup_nil, fun D h => by cases h⟩⟩, rfl⟩
  clear HF0
  intro g _ wr hinv
  obtain ⟨Ds, hinv⟩ := hinv
  obtain ⟨u2, hinv⟩ := hinv
  obtain ⟨u3, hinv⟩ := hinv
  obtain ⟨u4, hinv⟩ := hinv
  obtain ⟨u5, hinv⟩ := hinv
  obtain ⟨u6, hinv⟩ := hinv
  obtain ⟨u7, hinv⟩ := hinv
  obtain ⟨u8, hinv⟩ := hinv
  obtain ⟨u10, hinv⟩ := hinv
  obtain ⟨u11, hinv⟩ := hinv
  obtain ⟨u12, hinv⟩ := hinv
  obtain ⟨u13, hinv⟩ := hinv
  obtain ⟨u14, hinv⟩ := hinv
  obtain ⟨u15, hinv⟩ := hinv
  obtain ⟨u16, hinv⟩ := hinv
  obtain ⟨u17, hinv⟩ := hinv
  obtain ⟨u18, hinv⟩ := hinv
  obtain ⟨u19, hinv⟩ := hinv
  obtain ⟨u20, hinv⟩ := hinv
  obtain ⟨u21, hinv⟩ := hinv
  obtain ⟨u22, hinv⟩ := hinv
  obtain ⟨u23, hinv⟩ := hinv
  obtain ⟨u24, hinv⟩ := hinv
  obtain ⟨u25, hinv⟩ := hinv
  obtain ⟨u26, hinv⟩ := hinv
  obtain ⟨u27, hinv⟩ := hinv
  obtain ⟨u28, hinv⟩ := hinv
  obtain ⟨u29, hinv⟩ := hinv
  obtain ⟨u30, hinv⟩ := hinv
  obtain ⟨u31, hinv⟩ := hinv
  obtain ⟨u32, hinv⟩ := hinv
  obtain ⟨u33, hinv⟩ := hinv
  obtain ⟨u34, hinv⟩ := hinv
  obtain ⟨u35, hinv⟩ := hinv
  obtain ⟨u36, hinv⟩ := hinv
  obtain ⟨u37, hinv⟩ := hinv
  obtain ⟨u38, hinv⟩ := hinv
  obtain ⟨u39, hinv⟩ := hinv
  obtain ⟨u40, hinv⟩ := hinv
  obtain ⟨u41, hinv⟩ := hinv
  obtain ⟨u42, hinv⟩ := hinv
  obtain ⟨u43, hinv⟩ := hinv
  obtain ⟨u44, hinv⟩ := hinv
  obtain ⟨u45, hinv⟩ := hinv
  obtain ⟨u46, hinv⟩ := hinv
  obtain ⟨u47, hinv⟩ := hinv
  obtain ⟨u48, hinv⟩ := hinv
  obtain ⟨u49, hinv⟩ := hinv
  obtain ⟨u50, hinv⟩ := hinv
  obtain ⟨u51, hinv⟩ := hinv
  obtain ⟨u52, hinv⟩ := hinv
  obtain ⟨u53, hinv⟩ := hinv
  obtain ⟨u54, hinv⟩ := hinv
  obtain ⟨u55, hinv⟩ := hinv
  obtain ⟨u56, hinv⟩ := hinv
  obtain ⟨u57, hinv⟩ := hinv
  obtain ⟨u58, hinv⟩ := hinv
  obtain ⟨u59, hinv⟩ := hinv
  obtain ⟨u60, hinv⟩ := hinv
  obtain ⟨u61, hinv⟩ := hinv
  obtain ⟨u62, hinv⟩ := hinv
  obtain ⟨u63, hinv⟩ := hinv
  obtain ⟨u64, hinv⟩ := hinv
  obtain ⟨u65, hinv⟩ := hinv
  obtain ⟨u66, hinv⟩ := hinv
  obtain ⟨u67, hinv⟩ := hinv
  obtain ⟨u68, hinv⟩ := hinv
  obtain ⟨u69, hinv⟩ := hinv
  obtain ⟨u70, hinv⟩ := hinv
  obtain ⟨u71, hinv⟩ := hinv
  obtain ⟨u72, hinv⟩ := hinv
  obtain ⟨u73, hinv⟩ := hinv
  obtain ⟨u74, hinv⟩ := hinv
  obtain ⟨u75, hinv⟩ := hinv
  obtain ⟨u76, hinv⟩ := hinv
  obtain ⟨u77, hinv⟩ := hinv
  obtain ⟨u78, hinv⟩ := hinv
  obtain ⟨u79, hinv⟩ := hinv
  obtain ⟨u80, hinv⟩ := hinv
  obtain ⟨u81, hinv⟩ := hinv
  obtain ⟨u82, hinv⟩ := hinv
  obtain ⟨u83, hinv⟩ := hinv
  obtain ⟨f, hinv⟩ := hinv
  obtain ⟨val, hinv⟩ := hinv
  obtain ⟨hrel, ha⟩ := hinv
  subst ha
  obtain ⟨hu2, HV, HF, HMK⟩ := hrel
  subst hu2
  have hzr : w.heap.size ≤ wr.heap.size := HF.out.bl.size
  gi_wp2_with (first
    | (refine And.intro trivial ?_; gi_at_call 43; refine (callsIn_wide.2 (reach43 d.b _)).mono ?_; rintro e w3 ⟨rfl, rfl⟩)
    | fail)
  have HW2 : Hid (∀ W, W = ((wr.alloc (.map #[] 0)).alloc (.cells #[.map (some wr.heap.size)] 98)).alloc (.cells #[.map (some d.b)] 77) →
      RcEnv W.heap.size (· = wr.heap.size) base top N k L f d s (wr.heap.size + 1 + 1) W ∧ ByAt k L d (bfsL L f s N) N wr.heap.size [] W ∧ Box W (wr.heap.size + 1) [.map (some wr.heap.size)] ∧ Marks top Ds W ∧ FlAt base top N k L s t d w f val W ∧ W.heap.size = wr.heap.size + 3) := Lib.hid fun W hW => by
    subst hW
    have hB : Below wr.heap.size wr (((wr.alloc (.map #[] 0)).alloc (.cells #[.map (some wr.heap.size)] 98)).alloc (.cells #[.map (some d.b)] 77)) := by (repeat' (first | assumption | exact Below.refl _ _ | refine Below.drew ?_ | refine below_drewN ?_ _ | refine Below.setCell ?_ (by first | omega | (simp; done) | (simp; omega)) _ | refine Below.alloc ?_ (by first | omega | (simp; done) | (simp; omega)) _ | refine Below.trans ?_ (Below.mono (by assumption) (by first | omega | (simp; done) | (simp; omega)))))
    have b3 := (Box.new (wr.alloc (.map #[] 0)) [.map (some wr.heap.size)] 98).alloc (.cells #[.map (some d.b)] 77)
    have b4 := Box.new ((wr.alloc (.map #[] 0)).alloc (.cells #[.map (some wr.heap.size)] 98)) [.map (some d.b)] 77
    simp only [World.size_alloc] at b3 b4
    have hn := HF.out.net.below hB HF.out.net.top
    have ht := HF.out.net.top
    refine ⟨⟨hn, HOK.out, HK.out, HKS.out, HG.out.below (HF.out.bl.trans (hB.mono (by omega))) hb2, (b4.at_ 0 _ rfl).1, fun g h1 h2 => by omega, ⟨by omega, by omega, by omega⟩, ⟨by simp only [World.size_alloc]; omega, by simp only [World.size_alloc]; omega, by simp only [World.size_alloc]; omega⟩, hlen⟩, ⟨0, fun _ => none, ((MapAt.new wr _ _).alloc _).alloc _, fun _ _ => rfl⟩, b3, HMK.out.call hB, ⟨hn, HF.out.bl.trans (hB.mono (by omega)), HF.out.flow, HF.out.v⟩, by simp only [World.size_alloc]⟩
  obtain ⟨W2, hW2⟩ : ∃ W2, W2 = ((wr.alloc (.map #[] 0)).alloc (.cells #[.map (some wr.heap.size)] 98)).alloc (.cells #[.map (some d.b)] 77) := ⟨_, rfl⟩
  rw [← hW2]
  obtain ⟨hE2, hBy2, hb32, hMK2, hFl2, hz2⟩ := HW2.out W2 hW2
  have hz2a : wr.heap.size + 2 < W2.heap.size := by omega
  clear HW2 hW2 hmk HMK HF hz2
  have HE2 := Lib.hid hE2
  have HB32 := Lib.hid hb32
  have hbmz : wr.heap.size < W2.heap.size := by omega
  have HGL : Hid (∀ W, Frm W2.heap.size (· = wr.heap.size) W2 W → W.cell? ⟨1, 0, none⟩ = some (I 0) ∧ W.cell? ⟨1, 1, none⟩ = some (I 0) ∧ W.cell? ⟨1, 2, none⟩ = some (I 2)) := Lib.hid fun W h => by
    have h0 : ∀ o, W.cell? ⟨1, o, none⟩ = W2.cell? ⟨1, o, none⟩ := fun o => h.cell (by omega) (by omega)
    rw [h0, h0, h0]
    exact hE2.glob.t
  refine wpIn_rangeFunc_turns (F := Fence.wide) (n := 9) okI okI_no rfl (by decide) (gf := 55) (lb := #[ptr (wr.heap.size + 1 + 1)]) rfl trivial (enters_of Tryd.func55 (by kernel_rfl) rfl)
    (reach_turns W2.heap.size base top N (· = wr.heap.size) k L f d s (wr.heap.size + 1 + 1) hNb W2 (Nat.le_refl _) hE2) (fun h k => keepE_t h k) (keepE_b (Nat.le_refl _)) (Below.refl _ _) (fun _ => rfl)
    (fun pre W => (ByAt k L d (bfsL L f s N) N wr.heap.size pre W ∧ ∀ y, y ∈ pre → stT L (bfsL L f s N)[y] ≠ t) ∧ Frm W2.heap.size (· = wr.heap.size) W2 W)
    (fun c pre W => c = .exit 2 ∧ (∃ pre' y, pre = pre' ++ [y] ∧ stT L (bfsL L f s N)[y] = t) ∧ ByAt k L d (bfsL L f s N) N wr.heap.size pre W ∧ Frm W2.heap.size (· = wr.heap.size) W2 W)
    (fun pre X Y row hs hg hr => ⟨⟨hs.1.1.heap (hg.block _ hs.1.1.lt (fun e => by have := (hr _ e.symm).1; omega)), hs.1.2⟩, hs.2.grown hg hs.2.size (fun r e => .inl (hr r e).1)⟩)
    (fun c pre X Y row hs hg hr => ⟨hs.1, hs.2.1, hs.2.2.1.heap (hg.block _ hs.2.2.1.lt (fun e => by have := (hr _ e.symm).1; omega)), hs.2.2.2.grown hg hs.2.2.2.size (fun r e => .inl (hr r e).1)⟩)
    ⟨⟨hBy2, fun y h => by cases h⟩, Frm.refl _ _ _⟩
    (fun y a' W => ∃ Ba : Nat, W2.heap.size ≤ Ba ∧ Box W Ba [I (k.a (stT L (bfsL L f s N)[y])), I (k.b (stT L (bfsL L f s N)[y])), I (k.c (stT L (bfsL L f s N)[y]))] ∧ ∀ ya yb1 yc yb, k.a (stT L (bfsL L f s N)[y]) = ya → k.b (stT L (bfsL L f s N)[y]) = yb1 → k.c (stT L (bfsL L f s N)[y]) = yc → d.blk (bfsL L f s N)[y] = yb → a' = { tmps := #[.map (some d.b), undef, I val, ptr (wr.heap.size + 1), ptr Ba, ptr yb, u6, u7, u8, undef, u10, .map (some wr.heap.size), .map (some d.b), .func (.func 55) #[] #[ptr (wr.heap.size + 1 + 1)], kn ya yb1 yc, ptr yb, u16, u17, u18, u19, u20, u21, u22, u23, u24, u25, u26, u27, u28, u29, u30, u31, u32, u33, u34, u35, u36, u37, u38, u39, u40, u41, u42, u43, u44, u45, u46, u47, u48, u49, u50, u51, u52, u53, u54, u55, u56, u57, u58, u59, u60, u61, u62, u63, u64, u65, u66, u67, u68, u69, u70, u71, u72, u73, u74, u75, u76, u77, u78, u79, u80, u81, u82, u83], defers := [] })
    (fun y a' _ X Y row hs hg hr => by
      obtain ⟨Ba, h1, h2, h3⟩ := hs
      exact ⟨Ba, h1, h2.grown hg (fun e => by obtain ⟨_, o, h4, h5⟩ := hr _ e; obtain ⟨c, t', z, h6⟩ := box_cells h2; rw [h6] at h4; cases h4; cases h5), h3⟩)
    ?assign ?body ?done ?stop
  case assign =>
    rintro lp pre y W K ⟨hi, hF⟩ hK
    unfold encR at hK ⊢
    have hzW := hF.size
    have hbm : wr.heap.size < W.heap.size := hi.1.lt
    obtain ⟨ya, hya⟩ : ∃ z, k.a (stT L (bfsL L f s N)[y]) = z := ⟨_, rfl⟩
    obtain ⟨yb1, hyb1⟩ : ∃ z, k.b (stT L (bfsL L f s N)[y]) = z := ⟨_, rfl⟩
    obtain ⟨yc, hyc⟩ : ∃ z, k.c (stT L (bfsL L f s N)[y]) = z := ⟨_, rfl⟩
    obtain ⟨yb, hyb⟩ : ∃ z, d.blk (bfsL L f s N)[y] = z := ⟨_, rfl⟩
    rw [hya, hyb1, hyc, hyb] at hK
    rw [hya, hyb1, hyc, hyb]
    have hI : (ByAt k L d (bfsL L f s N) N wr.heap.size pre (W.alloc (.cells #[I ya, I yb1, I yc] 89)) ∧ ∀ y, y ∈ pre → stT L (bfsL L f s N)[y] ≠ t) ∧ Frm W2.heap.size (· = wr.heap.size) W2 (W.alloc (.cells #[I ya, I yb1, I yc] 89)) := ⟨⟨hi.1.heap (Below.heap_alloc W _ _ hbm), hi.2⟩, hF.alloc hzW _⟩
    have hK2 := Lib.hid (hK { tmps := #[.map (some d.b), undef, I val, ptr (wr.heap.size + 1), ptr W.heap.size, ptr yb, u6, u7, u8, undef, u10, .map (some wr.heap.size), .map (some d.b), .func (.func 55) #[] #[ptr (wr.heap.size + 1 + 1)], kn ya yb1 yc, ptr yb, u16, u17, u18, u19, u20, u21, u22, u23, u24, u25, u26, u27, u28, u29, u30, u31, u32, u33, u34, u35, u36, u37, u38, u39, u40, u41, u42, u43, u44, u45, u46, u47, u48, u49, u50, u51, u52, u53, u54, u55, u56, u57, u58, u59, u60, u61, u62, u63, u64, u65, u66, u67, u68, u69, u70, u71, u72, u73, u74, u75, u76, u77, u78, u79, u80, u81, u82, u83], defers := [] } _ ((KeepsOthers.alloc W (.cells #[I ya, I yb1, I yc] 89)).from _) (KeepE.alloc hzW _) hI ⟨W.heap.size, hzW, Box.new W [I ya, I yb1, I yc] 89, fun _ _ _ _ e1 e2 e3 e4 => by subst e1 e2 e3 e4; rfl⟩)
    clear hK hI
    gi_wp2
    exact hK2.out
  case body =>
    rintro lp pre y a' W hl ⟨r, hr⟩ ⟨⟨hBy, hpre⟩, hF⟩ ⟨Ba, hBa, bA, hax⟩ hlt
    obtain ⟨ya, hya⟩ : ∃ z, k.a (stT L (bfsL L f s N)[y]) = z := ⟨_, rfl⟩
    obtain ⟨yb1, hyb1⟩ : ∃ z, k.b (stT L (bfsL L f s N)[y]) = z := ⟨_, rfl⟩
    obtain ⟨yc, hyc⟩ : ∃ z, k.c (stT L (bfsL L f s N)[y]) = z := ⟨_, rfl⟩
    obtain ⟨yb, hyb⟩ : ∃ z, d.blk (bfsL L f s N)[y] = z := ⟨_, rfl⟩
    obtain rfl := hax ya yb1 yc yb hya hyb1 hyc hyb
    clear hax
    rw [hya, hyb1, hyc] at bA
    obtain ⟨k0, _⟩ := bA.at_ 0 _ rfl
    obtain ⟨k1, _⟩ := bA.at_ 1 _ rfl
    obtain ⟨k2, _⟩ := bA.at_ 2 _ rfl
    have b3W : W.cell? ⟨wr.heap.size + 1, 0, none⟩ = some (.map (some wr.heap.size)) := (hF.cell (b := wr.heap.size + 1) (o := 0) (by omega) (by omega)).trans (HB32.out.at_ 0 _ rfl).1
    obtain ⟨nB, fB, hmB, hfB⟩ := hBy
    have hyN : stT L (bfsL L f s N)[y] < N := by
      have hm : (bfsL L f s N)[y] ∈ bfsL L f s N := List.getElem_mem _
      obtain ⟨z, hz⟩ := bfs_mem hm
      exact HOK.out.stT hz
    have hkv : k.v (stT L (bfsL L f s N)[y]) = kn ya yb1 yc := by rw [Kt.v, hya, hyb1, hyc]
    have hky : IsK Tryd.prog 89 (kn ya yb1 yc) := by rw [← hkv]; exact HK.out.key _ hyN
    have HSN : Hid (∀ w5, MapAt Tryd.prog 89 w5 wr.heap.size (nB + 1) (putF fB (kn ya yb1 yc) (ptr yb)) → W.grownBy w5 (some wr.heap.size) → (KeepsFrom W2.heap.size W w5 ∧ KeepE W2.heap.size (· = wr.heap.size) W w5) ∧ ByAt k L d (bfsL L f s N) N wr.heap.size (pre ++ [y]) w5 ∧ Frm W2.heap.size (· = wr.heap.size) W2 w5) := Lib.hid fun w5 hm5 hg5 => by
      refine ⟨⟨KeepsFrom.of_grownBy hg5 (fun j e => by cases e; omega), KeepE.grown hg5 hF.size (fun r e => .inl (by cases e; exact ⟨hbmz, rfl⟩))⟩, ?_, hF.grown hg5 hF.size (fun r e => .inr (by cases e; rfl))⟩
      exact ByAt.snoc HK.out hyN hfB (by rw [hkv, hyb]; exact hm5)
    have HTE : Hid (stT L (bfsL L f s N)[y] = t ↔ ya = 0 ∧ yb1 = 0 ∧ yc = 2) := Lib.hid ⟨fun e => by rw [e] at hya hyb1 hyc; have := HKT.out; omega, fun e => HK.out.inj _ _ hyN htN (by rw [hkv, Kt.v, HKT.out.1, HKT.out.2.1, HKT.out.2.2, e.1, e.2.1, e.2.2])⟩
    have HPR := Lib.hid hpre
    clear hfB hpre hkv hya hyb1 hyc hyb hlt
    gi_wp2_with (first
      | (refine wpListIn_store_at _ rfl _ _ _ 98 (.inl rfl) 99 lawK Tryd.underlying98 wr.heap.size nB fB rfl hmB (kn ya yb1 yc) (ptr yb) rfl rfl hky ?_; intro w5 hm5 hg5 hs5; have bA5 := bA.grown hg5 (fun e => by have := Option.some.inj e; omega); obtain ⟨k05, _⟩ := bA5.at_ 0 _ rfl; obtain ⟨k15, _⟩ := bA5.at_ 1 _ rfl; obtain ⟨k25, _⟩ := bA5.at_ 2 _ rfl; have hF5 := hF.grown hg5 hF.size (fun r e => .inr (by cases e; rfl)); obtain ⟨t0, t1, t2⟩ := HGL.out _ hF5; have HS5 := Lib.hid (HSN.out w5 hm5 hg5))
      | fail)
    all_goals first
      | exact ⟨HS5.out.1.1, HS5.out.1.2, ⟨HS5.out.2.1, fun z hz => by
          rcases List.mem_append.1 hz with h | h
          · exact HPR.out z h
          · obtain rfl : z = y := by simpa using h
            exact fun e => absurd (HTE.out.1 e) (by omega)⟩, HS5.out.2.2⟩
      | exact ⟨HS5.out.1.1, rfl, ⟨pre, y, rfl, HTE.out.2 (by omega)⟩, HS5.out.2⟩
  case done =>
    rintro D xs W hD rfl ⟨⟨hBy, hpre⟩, hF⟩ hK
    have HNO : Hid (t ∉ ordL L s (bfsL L f s N)) := Lib.hid fun h => by
      rcases List.mem_cons.1 h with h | h
      · exact hst h.symm
      · obtain ⟨p, hp, e⟩ := List.mem_map.1 h
        obtain ⟨i, hi, rfl⟩ := List.getElem_of_mem hp
        exact hpre ⟨i, hi⟩ (List.mem_finRange _) e
    have hlk := hBy.lookup HK.out htN
    rw [byF_none hpre, Kt.v, HKT.out.1, HKT.out.2.1, HKT.out.2.2] at hlk
    have b3W : W.cell? ⟨wr.heap.size + 1, 0, none⟩ = some (.map (some wr.heap.size)) := (hF.cell (b := wr.heap.size + 1) (o := 0) (by omega) (by omega)).trans (HB32.out.at_ 0 _ rfl).1
    obtain ⟨t0, t1, t2⟩ := HGL.out _ hF
    have HFL := Lib.hid (hFl2.move hF (by omega) (fun g e => by omega))
    have HMD : Hid (Marks top (D :: Ds) W) := Lib.hid ⟨List.nodup_cons.2 ⟨fun h => by have := hMK2.lt D h; omega, hMK2.1⟩, fun D' h => by
      rcases List.mem_cons.1 h with rfl | h
      · exact ⟨by omega, hK⟩
      · exact ⟨(hMK2.2 D' h).1, (hF.block D' (hMK2.lt D' h) (fun e => by
          have h1 := (hMK2.2 D' h).2
          obtain ⟨n1, f1, h2, _⟩ := hBy2
          obtain ⟨es, ck, h3, _⟩ := h2
          rw [e, h3] at h1
          cases h1)).trans (hMK2.2 D' h).2⟩⟩
    clear hpre hBy hMK2 hFl2 hE2 hBy2 hb32 HGL
    gi_wp2
    refine leavesM_marks (B := top) (D :: Ds) _ HMD.out fun W' hB' _ => ?_
    refine ⟨I val, by simp [results, Tryd.results41, go_sem], f, val, rfl, HFL.out.move (Frm.of_below (S := fun _ => False) hB' (Nat.le_refl _)) (Nat.le_refl _) (fun g e => e.elim), HNO.out⟩
  case stop =>
    rintro D c pre W hD ⟨jj, hjj, rfl⟩ ⟨rfl, ⟨pre', y, hpy, hyt⟩, hBy, hF⟩ hK
    generalize wr.heap.size = bm at *
    obtain ⟨hpp, hpy2⟩ := List.append_inj' ((uptoF_succ hjj).symm.trans hpy) rfl
    obtain rfl : y = ⟨jj, hjj⟩ := by simpa using hpy2.symm
    obtain ⟨ys, hys⟩ : ∃ ys, (bfsL L f s N).take (jj + 1) = ys := ⟨_, rfl⟩
    have hpre : ys <+: bfsL L f s N := by rw [← hys]; exact List.take_prefix _ _
    have hS : Srch (stT L) (stF L) (roomL L f) s ys := (bfsL_srch L f s N).pre hpre
    have hSa : ∀ p, p ∈ ys → p.1 < L.length := fun p hp => bfsL_arcs p (hpre.mem hp)
    have hto : t ∈ ordL L s ys := by
      refine List.mem_cons.2 (.inr (List.mem_map.2 ⟨(bfsL L f s N)[jj], ?_, hyt⟩))
      rw [← hys, List.mem_take_iff_getElem]
      exact ⟨jj, by omega, rfl⟩
    obtain ⟨l, hl1, hl2, hl3, hl4, hl5, hl6, hl7⟩ := way_of hFl2.flow hst hS hSa hto (c0 := 1073741824) (by decide)
    -- each node on the way: its arc in the map
    have HLK : Hid (∀ W', Below W.heap.size W W' → ∀ x, x ∈ ordL L s ys → x ≠ s → byOf (stT L) ys x ∈ ys ∧ stT L (byOf (stT L) ys x) = x ∧ stF L (byOf (stT L) ys x) ∈ ordL L s ys ∧ (Instr.lookup 98 (.map (some bm)) (k.v x) false).run Tryd.prog W' = .ok (ptr (d.blk (byOf (stT L) ys x))) W') := Lib.hid fun W' hW' x hx hxs => by
      have hm : x ∈ ys.map (stT L) := by
        rcases List.mem_cons.1 hx with h | h
        · exact absurd h hxs
        · exact h
      obtain ⟨p, hp, rfl⟩ := List.mem_map.1 hm
      obtain ⟨i, hi, rfl⟩ := List.getElem_of_mem hp
      have hbo := byOf_at hS hi
      obtain ⟨_, j, hj, hfr⟩ := hS.from_ i hi
      have hil : i < (bfsL L f s N).length := Nat.lt_of_lt_of_le hi hpre.length_le
      have hij : i < jj + 1 := by rw [← hys] at hi; simp at hi; omega
      have hge : (bfsL L f s N)[i] = ys[i] := (hpre.getElem hi).symm
      have hxN : stT L ys[i] < N := by
        have hm : (bfsL L f s N)[i] ∈ bfsL L f s N := List.getElem_mem _
        obtain ⟨z, hz⟩ := bfs_mem hm
        rw [← hge]
        exact HOK.out.stT hz
      rw [hbo]
      refine ⟨hp, rfl, List.mem_of_getElem? hfr, ?_⟩
      rw [(hBy.heap (hW'.block _ hBy.lt)).lookup HK.out hxN]
      have h1 := (byF_upto (d := d) (L := L) (fin := bfsL L f s N) (List.nodup_cons.1 (bfsL_srch L f s N).nodup).2 (jj + 1) (by omega)).1 i hij hil
      rw [hge] at h1
      rw [h1]
      rfl
    have b3W : W.cell? ⟨bm + 1, 0, none⟩ = some (.map (some bm)) := (hF.cell (b := bm + 1) (o := 0) (by omega) (by omega)).trans (HB32.out.at_ 0 _ rfl).1
    have hFLW := hFl2.move hF (by omega) (fun g e => by omega)
    have HFLW := Lib.hid hFLW
    have HMD : Hid (Marks top (D :: Ds) W) := Lib.hid ⟨List.nodup_cons.2 ⟨fun h => by have := hMK2.lt D h; omega, hMK2.1⟩, fun D' h => by
      rcases List.mem_cons.1 h with rfl | h
      · exact ⟨by omega, hK⟩
      · exact ⟨(hMK2.2 D' h).1, (hF.block D' (hMK2.lt D' h) (fun e => by
          have h1 := (hMK2.2 D' h).2
          obtain ⟨n1, f1, h2, _⟩ := hBy2
          obtain ⟨es, ck, h3, _⟩ := h2
          rw [e, h3] at h1
          cases h1)).trans (hMK2.2 D' h).2⟩⟩
    have hWz : W2.heap.size ≤ W.heap.size := hF.size
    have HCW : Hid (∀ W', Below W.heap.size W W' → (W'.cell? ⟨bm + 1, 0, none⟩ = some (.map (some bm))) ∧ (W'.cell? ⟨0, 0, none⟩ = some (I 0) ∧ W'.cell? ⟨0, 1, none⟩ = some (I 0) ∧ W'.cell? ⟨0, 2, none⟩ = some (I 1)) ∧ (W'.cell? ⟨1, 0, none⟩ = some (I 0) ∧ W'.cell? ⟨1, 1, none⟩ = some (I 0) ∧ W'.cell? ⟨1, 2, none⟩ = some (I 2))) := Lib.hid fun W' h => by
      have hG := (HG.out.below hFLW.bl hb2).below h (by omega)
      exact ⟨(h.cell (p := ⟨bm + 1, 0, none⟩) (show bm + 1 < _ by omega)).trans b3W, hG.s, hG.t⟩
    have HAR : Hid (∀ W', Below W.heap.size W W' → ∀ p : Stp, p.1 < L.length → Box W' (d.blk p) (arcV k (stT L p) (roomL L f p) (d.blk (flipS p))) ∧ d.blk p < top) := Lib.hid fun W' h p hp => ⟨(hFLW.net.arc p hp).call h, (hFLW.net.ab p hp).2⟩
    obtain ⟨hto1, hto2, hto3, hlkW⟩ := HLK.out W (Below.refl _ _) t hto (fun e => hst e.symm)
    rw [Kt.v, HKT.out.1, HKT.out.2.1, HKT.out.2.2] at hlkW
    obtain ⟨Bt, hBt⟩ : ∃ Bt, d.blk (byOf (stT L) ys t) = Bt := ⟨_, rfl⟩
    rw [hBt] at hlkW
    obtain ⟨_, _, t0, t1, t2⟩ := HCW.out W (Below.refl _ _)
    have hW1z : 1 < W.heap.size := by omega
    have HL0 : Hid ((W.alloc (.cells #[I 0, I 0, I 2] 89)).heap[W.heap.size]? = some (.cells #[I (k.a t), I (k.b t), I (k.c t)] 89 (0, 0)) ∧ Below W.heap.size W (W.alloc (.cells #[I 0, I 0, I 2] 89))) := Lib.hid ⟨by rw [HKT.out.1, HKT.out.2.1, HKT.out.2.2]; exact (MapKept.heap_alloc W _).1, below1 _ _⟩
    have HWY := Lib.hid (⟨⟨hl1, hl2, hl3⟩, hl4, hl5, hl6, hl7⟩ : (_ ∧ _ ∧ _) ∧ _ ∧ _ ∧ _ ∧ _)
    have HTO := Lib.hid hto
    have HSA := Lib.hid hSa
    have hll : l.length ≤ 4000 := by omega
    clear hl1 hl2 hl3 hl4 hl5 hl6 hl7 hto hSa hS hpre hys hpp hpy hpy2 hBy hF hK hE2 hBy2 hb32 hMK2 hFl2 hto1 hto2 hto3 hBt hyt HGL hFLW
    gi_wp2
    gi_loopg [6, 7, 8] l.length (fun g u6 u7 u8 wi => ∃ (x : Nat) (done rest : List Stp) (bk : Nat), u8 = ptr bk ∧ u7 = I (minR (roomL L f) done 1073741824) ∧ Hid (g = rest.length ∧ l = done ++ rest ∧ Back (frL L) (toL L) (byOf (stT L) ys) s x rest ∧ x ∈ ordL L s ys) ∧ Hid (wi.heap[bk]? = some (.cells #[I (k.a x), I (k.b x), I (k.c x)] 89 (0, 0))) ∧ Hid (wi.ownsRow W.heap.size 99 1 u6 done.length (done.map fun p => ptr (d.blk p))) ∧ Hid (Below W.heap.size W wi))
    case atStart => exact ⟨t, [], l, W.heap.size, rfl, rfl, Lib.hid ⟨rfl, rfl, HWY.out.1.1, HTO.out⟩, Lib.hid HL0.out.1, Lib.hid (World.ownsRow_nil _ _ _ _), Lib.hid HL0.out.2⟩
    case round =>
      obtain ⟨x, done, rest, bk, rfl, rfl, HD, HBK, HRW, HBi⟩ := hrel
      clear HL0 hlkW t0 t1 t2
      have hzi : W.heap.size ≤ wr.heap.size := HBi.out.size
      obtain ⟨cb, ⟨s0, s1, s2⟩, _⟩ := HCW.out _ HBi.out
      obtain ⟨xa, hxa⟩ : ∃ z, k.a x = z := ⟨_, rfl⟩
      obtain ⟨xb, hxb⟩ : ∃ z, k.b x = z := ⟨_, rfl⟩
      obtain ⟨xc, hxc⟩ : ∃ z, k.c x = z := ⟨_, rfl⟩
      rw [hxa, hxb, hxc] at HBK
      obtain ⟨x0, x1, x2⟩ := three_cells HBK.out
      obtain ⟨cc, hcc⟩ : ∃ z, minR (roomL L f) done 1073741824 = z := ⟨_, rfl⟩
      rw [hcc]
      cases rest with
      | nil =>
        have hxs : x = s := by
          have hbk := HD.out.2.2.1
          cases hbk with
          | nil => rfl
        have hdl : l = done := by have := HD.out.2.1; rwa [List.append_nil] at this
        subst hxs
        obtain ⟨rfl, rfl, rfl⟩ : xa = 0 ∧ xb = 0 ∧ xc = 1 := by have := HKS.out; omega
        have hnq := fun W => neq_kn 0 0 1 0 0 1 W
        rw [decide_eq_true ⟨rfl, rfl, rfl⟩] at hnq
        subst hdl
        obtain ⟨we, rfl⟩ : ∃ we, we = wr := ⟨_, rfl⟩
        rw [hcc] at HWY
        have HFe := Lib.hid (HFLW.out.move (Frm.of_below (S := fun _ => False) HBi.out (Nat.le_refl _)) (by omega) (fun g e => e.elim))
        obtain ⟨RA, rc, rfl, hrc⟩ := way_row HRW.out
        have HRC := Lib.hid hrc
        have hccb : 0 < cc ∧ cc ≤ 1073741824 := ⟨HWY.out.1.2.1, by rw [← hcc]; exact minR_le.1⟩
        have HN0 : Hid (NetAt base top N L.length k (stT L) (outsL L) (roomL L ((l.take 0).foldl (upd cc) f)) d we ∧ Frm we.heap.size (fun g => base ≤ g ∧ g < top) we we) := Lib.hid ⟨HFe.out.net, Frm.refl _ _ _⟩
        have hcv : IntKind.i64.wrap (val + cc) = val + cc := IntWalk.i64_in _ (by have := HV.out; omega)
        have HMe := Lib.hid (HMD.out.call HBi.out)
        clear HD HTO hxa hxb hxc HLK hrc HRW hcc HBK
        gi_wp2
        clear x0 x1 x2 hnq
        gi_loopw [57] (fun i wj => ∃ j : Nat, i = I j ∧ j ≤ l.length ∧ Hid (NetAt base top N L.length k (stT L) (outsL L) (roomL L ((l.take j).foldl (upd cc) f)) d wj ∧ Frm we.heap.size (fun g => base ≤ g ∧ g < top) we wj)) (fun i _ => l.length - (intOf i).toNat)
        case atStart => exact ⟨0, rfl, by omega, HN0⟩
        case round =>
          obtain ⟨j, rfl, hj, HNj⟩ := hrel
          clear HN0
          by_cases hjl : j < l.length
          · have hwj : IntKind.i64.wrap ((j : Int) + 1) = (j : Int) + 1 := IntWalk.i64_in _ (by omega)
            have j0 : (0 : Int) ≤ (j : Int) := by omega
            have j1 : (j : Int) < (l.length : Int) := by omega
            obtain ⟨p, hp⟩ : ∃ p, l[j] = p := ⟨_, rfl⟩
            have hpL : p.1 < L.length := HSA.out p (HWY.out.1.2.2 p (by rw [← hp]; exact List.getElem_mem hjl)).1
            obtain ⟨rg, hRA, hrg1, hrg2, hrg3⟩ := HRC.out j (ptr (d.blk p)) (by rw [List.getElem?_map, List.getElem?_eq_getElem hjl, hp]; rfl)
            subst hRA
            have hrow := (HNj.out.2.cell (b := rg) (o := j) hrg2 (by omega)).trans hrg3
            have HSC : Hid ((l.take (j + 1)).foldl (upd cc) f = upd cc ((l.take j).foldl (upd cc) f) p) := Lib.hid (by rw [List.take_succ_eq_append_getElem hjl, List.foldl_append, hp]; rfl)
            obtain ⟨fj, hfj⟩ : ∃ fj, (l.take j).foldl (upd cc) f = fj := ⟨_, rfl⟩
            rw [hfj] at HNj HSC
            have hnear : ∀ i, f i - cc ≤ fj i ∧ fj i ≤ f i + cc := fun i => by rw [← hfj]; exact upd_near HWY.out.2.1 (by omega) j i
            obtain ⟨z, hz⟩ : ∃ z, roomL L fj p = z := ⟨_, rfl⟩
            obtain ⟨z', hz'⟩ : ∃ z, roomL L fj (flipS p) = z := ⟨_, rfl⟩
            obtain ⟨B, hB⟩ : ∃ B, d.blk p = B := ⟨_, rfl⟩
            obtain ⟨B', hB'⟩ : ∃ B', d.blk (flipS p) = B' := ⟨_, rfl⟩
            have hN := HNj.out.1
            have hbox := hN.arc p hpL
            have hbox' := hN.arc (flipS p) hpL
            rw [hB, hz, hB'] at hbox
            rw [hB', hz'] at hbox'
            rw [hB] at hrow
            obtain ⟨v3, n3⟩ := hbox.at_ 3 _ rfl
            obtain ⟨v4, n4⟩ := hbox.at_ 4 _ rfl
            obtain ⟨v5, n5⟩ := hbox'.at_ 3 _ rfl
            have hne : B ≠ B' := by
              rw [← hB, ← hB']
              exact fun e => flip_ne p (hN.arcs p (flipS p) hpL hpL e).symm
            have hne' : B' ≠ B := fun e => hne e.symm
            have hbd : -3000000000 ≤ z ∧ z ≤ 3000000000 ∧ -3000000000 ≤ z' ∧ z' ≤ 3000000000 := by
              have h1 := HOK.out.capi hpL
              have h2 := HFe.out.flow.lo p.1 hpL
              have h3 := hnear p.1
              have e1 : z = capL L p.1 - fj p.1 ∨ z = fj p.1 := by
                rw [← hz]
                unfold roomL roomS
                split
                · exact .inl rfl
                · exact .inr rfl
              have e2 : z' = capL L p.1 - fj p.1 ∨ z' = fj p.1 := by
                rw [← hz']
                unfold roomL roomS flipS
                dsimp only
                split
                · exact .inl rfl
                · exact .inr rfl
              omega
            have hw1 : IntKind.i64.wrap (z - cc) = z - cc := IntWalk.i64_in _ (by omega)
            have hw2 : IntKind.i64.wrap (z' + cc) = z' + cc := IntWalk.i64_in _ (by omega)
            have HNN : Hid (NetAt base top N L.length k (stT L) (outsL L) (roomL L ((l.take (j + 1)).foldl (upd cc) f)) d ((wr.setCell ⟨B, 3, none⟩ (I (z - cc))).setCell ⟨B', 3, none⟩ (I (z' + cc))) ∧ Frm we.heap.size (fun g => base ≤ g ∧ g < top) we ((wr.setCell ⟨B, 3, none⟩ (I (z - cc))).setCell ⟨B', 3, none⟩ (I (z' + cc)))) := Lib.hid (by
              have h1 := hN.turn hpL cc
              have h2 := hN.ab p hpL
              have h3 := hN.ab (flipS p) hpL
              rw [hB, hB', hz, hz'] at h1
              rw [hB] at h2
              rw [hB'] at h3
              rw [HSC.out]
              exact ⟨h1, (HNj.out.2.setCell (.inr h2) _).setCell (.inr h3) _⟩)
            clear HNj HSC hfj hnear hz hz' hN hbox hbox' hrg3 hp hbd
            gi_wp2
            go_roundw
            case rel => exact ⟨j + 1, by go_num, by omega, HNN⟩
            case measure => simp [intOf]; omega
          · obtain rfl : j = l.length := by omega
            rw [List.take_length] at HNj
            have hv2 : val + cc = outAt (frL L) (toL L) (l.foldl (upd cc) f) L.length x := by rw [HWY.out.2.2.2.2, HFe.out.v]
            have hle := flow_most HWY.out.2.2.2.1 hst
            have HVf : Hid ((((g : Int) - cc).toNat : Int) + (val + cc) = 1000 ∧ 0 ≤ val + cc) := Lib.hid (by
              have h1 := HV.out
              have h2 := HM.out
              rw [← hv2] at hle
              omega)
            have hgl : ((g : Int) - cc).toNat < g := by
              have h1 := HV.out
              have h2 := HM.out
              rw [← hv2] at hle
              omega
            have HFf : Hid (FlAt base top N k L x t d w (l.foldl (upd cc) f) (val + cc) wr) := Lib.hid ⟨HNj.out.1, HFe.out.bl.trans (HNj.out.2.below (by have := HFe.out.net.top; omega) (fun g h1 h2 => by omega)), HWY.out.2.2.2.1, hv2⟩
            have HMf : Hid (Marks top (D :: Ds) wr) := Lib.hid (HMe.out.keep fun D' hD' => HNj.out.2.block D' (HMe.out.lt D' hD') (fun e => by have := (HMe.out.2 D' hD').1; omega))
            clear HNj hv2 hle HFe HMe HMD HV HM HWY HCW HAR HFLW HRC HE2 HB32
            gi_wp2
            refine ⟨_, hgl, D :: Ds, ?_⟩
            (repeat apply Exists.intro)
            exact ⟨⟨rfl, HVf, HFf, HMf⟩, rfl⟩
      | cons p rest' =>
        have hbk := HD.out.2.2.1
        obtain ⟨hpx, hxs, hbk'⟩ : p = byOf (stT L) ys x ∧ x ≠ s ∧ Back (frL L) (toL L) (byOf (stT L) ys) s (stF L (byOf (stT L) ys x)) rest' := by
          cases hbk with
          | cons h1 h2 => exact ⟨rfl, h1, h2⟩
        have hxN : x < N := by
          rcases List.mem_cons.1 HD.out.2.2.2 with h | h
          · exact absurd h hxs
          · obtain ⟨q, hq, rfl⟩ := List.mem_map.1 h
            have := HSA.out q hq
            unfold stT stepTo
            split
            · exact HOK.out.to this
            · exact HOK.out.fr this
        have hne : ¬ (xa = 0 ∧ xb = 0 ∧ xc = 1) := fun e => hxs (HK.out.inj _ _ hxN HOK.out.src (by rw [Kt.v, Kt.v, hxa, hxb, hxc, HKS.out.1, HKS.out.2.1, HKS.out.2.2, e.1, e.2.1, e.2.2]))
        have hnq := fun W => neq_kn xa xb xc 0 0 1 W
        rw [decide_eq_false hne] at hnq
        have HLx : Hid (∀ W', Below W.heap.size W W' → (Instr.lookup 98 (.map (some bm)) (kn xa xb xc) false).run Tryd.prog W' = .ok (ptr (d.blk p)) W') := Lib.hid fun W' hW' => by
          have h := (HLK.out W' hW' x HD.out.2.2.2 hxs).2.2.2
          rwa [Kt.v, hxa, hxb, hxc, ← hpx] at h
        have hpy : p ∈ ys := (HWY.out.1.2.2 p (by rw [HD.out.2.1]; simp)).1
        have hpL : p.1 < L.length := HSA.out p hpy
        obtain ⟨B, hB⟩ : ∃ B, d.blk p = B := ⟨_, rfl⟩
        obtain ⟨B', hB'⟩ : ∃ B', d.blk (flipS p) = B' := ⟨_, rfl⟩
        obtain ⟨z, hz⟩ : ∃ z, roomL L f p = z := ⟨_, rfl⟩
        obtain ⟨fa, hfa⟩ : ∃ z, k.a (stF L p) = z := ⟨_, rfl⟩
        obtain ⟨fb, hfb⟩ : ∃ z, k.b (stF L p) = z := ⟨_, rfl⟩
        obtain ⟨fc, hfc⟩ : ∃ z, k.c (stF L p) = z := ⟨_, rfl⟩
        rw [hB] at HLx
        have HAp : Hid (∀ W', Below W.heap.size W W' → (W'.cell? ⟨B, 3, none⟩ = some (I z) ∧ W'.cell? ⟨B, 4, none⟩ = some (ptr B')) ∧ (W'.cell? ⟨B', 0, none⟩ = some (I fa) ∧ W'.cell? ⟨B', 1, none⟩ = some (I fb) ∧ W'.cell? ⟨B', 2, none⟩ = some (I fc)) ∧ B < top ∧ B' < top) := Lib.hid fun W' hW' => by
          obtain ⟨h1, h2⟩ := HAR.out W' hW' p hpL
          obtain ⟨h3, h4⟩ := HAR.out W' hW' (flipS p) hpL
          rw [hB] at h1 h2
          rw [hB'] at h1 h3 h4
          have e3 := (h1.at_ 3 _ rfl).1
          have e4 := (h1.at_ 4 _ rfl).1
          have f0 := (h3.at_ 0 _ rfl).1
          have f1 := (h3.at_ 1 _ rfl).1
          have f2 := (h3.at_ 2 _ rfl).1
          rw [hz] at e3
          rw [flip_to] at f0 f1 f2
          rw [hfa] at f0
          rw [hfb] at f1
          rw [hfc] at f2
          exact ⟨⟨e3, e4⟩, ⟨f0, f1, f2⟩, h2, h4⟩
        have hlk := HLx.out wr HBi.out
        have hdl : done.length ≤ 4000 := by
          have := congrArg List.length HD.out.2.1
          simp at this
          omega
        have HNX : Hid (rest'.length < gk ∧ l = (done ++ [p]) ++ rest' ∧ Back (frL L) (toL L) (byOf (stT L) ys) s (stF L p) rest' ∧ stF L p ∈ ordL L s ys) := Lib.hid ⟨by rw [HD.out.1]; simp, by rw [HD.out.2.1]; simp, by rw [hpx]; exact hbk', by rw [hpx]; exact (HLK.out W (Below.refl _ _) x HD.out.2.2.2 hxs).2.2.1⟩
        have HMN : Hid (minR (roomL L f) (done ++ [p]) 1073741824 = min cc z) := Lib.hid (by rw [minR_snoc, hcc, hz])
        have HRWx : Hid (wr.ownsRow W.heap.size 99 1 u6 done.length (done.map fun p => ptr (d.blk p)) ∧ u6.ownBlock ≠ some bk) := Lib.hid ⟨HRW.out, fun e => by
          obtain ⟨_, cur, hc⟩ := own_block HRW.out e
          rw [HBK.out] at hc
          cases hc⟩
        have htW : top ≤ W.heap.size := by omega
        clear hbk hpx hxs hbk' hxa hxb hxc hcc hz hne hpy HD hxN
        gi_wp2_with (first
          | (gi_at_builtin; refine wpListIn_append_own _ rfl _ _ 100 rfl W.heap.size 99 i0 (.pointer none) 1 8 Tryd.underlying100 hi0 hi1 hi2 hi3 rfl (by decide) _ _ _ rfl (HRWx.out.1.alloc _) ⟨wr.heap.size, 0, none⟩ 1 1 [ptr B] rfl rfl (cells_new wr [ptr B] 99) (by simp [Value.oneCell']) (by unfold maxLen; omega) (by omega) (by simp; omega) ?_; intro v6 w5 hown5 hg5 _
             have HB5 : Hid (Below W.heap.size W w5) := Lib.hid ((HBi.out.alloc hzi (.cells #[ptr B] 99)).grown hg5 (by simp; omega) (fun r e => (own_block HRWx.out.1 e).1))
             have hbk5 : w5.heap[bk]? = some (.cells #[I xa, I xb, I xc] 89 (0, 0)) := (hg5.block bk (by simp; have := (Array.getElem?_eq_some_iff.1 HBK.out).1; omega) (fun e => HRWx.out.2 e.symm)).trans ((Below.heap_alloc wr _ bk (Array.getElem?_eq_some_iff.1 HBK.out).1).trans HBK.out)
             obtain ⟨y0, y1, y2⟩ := three_cells hbk5
             obtain ⟨⟨e3, e4⟩, ⟨f0, f1, f2⟩, hBt1, hBt2⟩ := HAp.out w5 HB5.out
             have hlk5 := HLx.out w5 HB5.out
             obtain ⟨cb5, _, _⟩ := HCW.out w5 HB5.out
             have hz5 : W.heap.size ≤ w5.heap.size := HB5.out.size
             have hlt1 : bm + 1 < w5.heap.size := by omega
             have hlt2 : B < w5.heap.size := by omega
             have hlt3 : B' < w5.heap.size := by omega
             have hlk6 := HLx.out (w5.alloc (.cells #[I xa, I xb, I xc] 89)) (HB5.out.alloc hz5 _))
          | fail)
        have HRf : Hid (w5.ownsRow W.heap.size 99 1 v6 (done ++ [p]).length ((done ++ [p]).map fun p => ptr (d.blk p))) := Lib.hid (by
          rw [List.length_append, List.map_append, List.length_singleton]
          show w5.ownsRow W.heap.size 99 1 v6 (done.length + 1) (done.map (fun p => ptr (d.blk p)) ++ [ptr (d.blk p)])
          rw [hB]
          exact hown5)
        gi_roundg rest'.length
        case measure => exact HNX.out.1
        case rel => exact ⟨stF L p, done ++ [p], rest', w5.heap.size, rfl, by rw [HMN.out], Lib.hid ⟨rfl, HNX.out.2.1, HNX.out.2.2⟩, Lib.hid (by rw [hfa, hfb, hfc]; exact (MapKept.heap_alloc w5 _).1), Lib.hid (HRf.out.alloc _), Lib.hid (HB5.out.alloc hz5 _)⟩
end Go.Proofs.YtomfnldlnoiloaaDoor
