/- Excess: the body of its walk. -/
import Derived.Test.YtgdilbilhajgaaaDoorW5
namespace Go.Proofs.YtgdilbilhajgaaaDoor
set_option linter.unusedVariables false
set_option linter.unusedSimpArgs false
open Go Go.RowKit

def Ent (W : World) (U : Nat) (m : List (Int × Int)) (l : List (Int × Int × Int)) (j : Nat) (a b : Value) : Prop :=
  ∃ (f : Int) (Sj o N c : Nat) (L : List Int), a = I f ∧ b = .slice (some ⟨Sj, o, none⟩) N c ∧ L.length = N ∧ 1 ≤ N ∧ (N ≤ c ∧ c ≤ 9223372036854775807) ∧ (Sj < W.heap.size ∧ Sj ≠ U) ∧ (∀ k (h : k < L.length), W.cell? ⟨Sj, o + k, none⟩ = some (I L[k])) ∧ BestP (Att m l j) f L
theorem Ent.frm {W W' : World} {U j : Nat} {m : List (Int × Int)} {l : List (Int × Int × Int)} {a b : Value} (h : Ent W U m l j a b) (hF : Frm W.heap.size (· = U) W W') : Ent W' U m l j a b := by
  obtain ⟨f, Sj, o, N, c, L, h1, h2, h3, h4, h5, h6, h7, h8⟩ := h
  exact ⟨f, Sj, o, N, c, L, h1, h2, h3, h4, h5, ⟨Nat.lt_of_lt_of_le h6.1 hF.size, h6.2⟩, fun k hk => (hF.cell h6.1 h6.2).trans (h7 k hk), h8⟩
/-- The row U of the least costs, from main k on. -/
def Much (W : World) (U : Nat) (m : List (Int × Int)) (l : List (Int × Int × Int)) (k : Nat) : Prop :=
  ∃ vs : List Value, Box W U vs ∧ vs.length = m.length * 2 ∧ ∀ j, j < m.length → k ≤ j → ∃ a b, vs[j * 2]? = some a ∧ vs[j * 2 + 1]? = some b ∧ Ent W U m l j a b
theorem Much.call {W W' : World} {U k : Nat} {m : List (Int × Int)} {l : List (Int × Int × Int)} (h : Much W U m l k) (hB : Below W.heap.size W W') : Much W' U m l k := by
  obtain ⟨vs, h1, h2, h3⟩ := h
  refine ⟨vs, h1.call hB, h2, fun j hj hk => ?_⟩
  obtain ⟨a, b, e1, e2, e3⟩ := h3 j hj hk
  exact ⟨a, b, e1, e2, e3.frm (.of_below hB (Nat.le_refl _))⟩
theorem Much.set {W : World} {U i : Nat} {m : List (Int × Int)} {l : List (Int × Int × Int)} (h : Much W U m l (i + 1)) (hi : i < m.length) {a b : Value} (he : Ent W U m l i a b) : Much ((W.setCell ⟨U, i * 2, none⟩ a).setCell ⟨U, i * 2 + 1, none⟩ b) U m l i := by
  obtain ⟨vs, h1, h2, h3⟩ := h
  have hF : Frm W.heap.size (· = U) W ((W.setCell ⟨U, i * 2, none⟩ a).setCell ⟨U, i * 2 + 1, none⟩ b) := ((Frm.refl W.heap.size (· = U) W).setCell (p := ⟨U, i * 2, none⟩) (.inr rfl) _).setCell (p := ⟨U, i * 2 + 1, none⟩) (.inr rfl) _
  refine ⟨_, (h1.set (i * 2) a).set (i * 2 + 1) b, by simpa using h2, fun j hj hk => ?_⟩
  by_cases e : j = i
  · subst e
    refine ⟨a, b, ?_, ?_, he.frm hF⟩
    · rw [List.getElem?_set_ne (by omega), List.getElem?_set_self (by omega)]
    · rw [List.getElem?_set_self (by simp; omega)]
  · obtain ⟨a', b', e1, e2, e3⟩ := h3 j hj (by omega)
    refine ⟨a', b', ?_, ?_, e3.frm hF⟩
    · rw [List.getElem?_set_ne (by omega), List.getElem?_set_ne (by omega)]; exact e1
    · rw [List.getElem?_set_ne (by omega), List.getElem?_set_ne (by omega)]; exact e2
theorem kid_gt {m : List (Int × Int)} (hm : MOk m) {i x : Nat} (h : x ∈ kids m i) : i < x := by
  obtain ⟨h1, h2⟩ := mem_kids.1 h
  rcases Nat.eq_zero_or_pos x with e | e
  · subst e; have := hm.root; omega
  · have := hm.par x e h1; omega
/-- The own list so far. -/
def CurN (B : Nat) (W : World) (ob : Nat) (m : List (Int × Int)) (l : List (Int × Int × Int)) (i k : Nat) : Prop :=
  ∃ (f : Int) (Sg o N c : Nat) (L : List Int), Box W ob [I f, .slice (some ⟨Sg, o, none⟩) N c] ∧ L.length = N ∧ 1 ≤ N ∧ (N ≤ c ∧ c ≤ 9223372036854775807) ∧ (Sg < W.heap.size ∧ Sg ≠ ob ∧ B ≤ Sg) ∧ (∀ k (h : k < L.length), W.cell? ⟨Sg, o + k, none⟩ = some (I L[k])) ∧ BestP (PAtt m l ((kids m i).take k)) f L

set_option maxRecDepth 100000 in
set_option maxHeartbeats 8000000 in
theorem clo47n (tb Mb mb sb T U S : Nat) (A : Option Addr) (c : Nat) (m : List (Int × Int)) (l : List (Int × Int × Int)) (i : Nat) (hi : i < m.length) (hkn : kids m i ≠ []) (hfe : ∃ x, Feas m l x) (w00 w : World) (hT00 : TreeAt w00 T A c m) (hS00 : SpB w00 S (toldL l m.length)) (hB00 : Below w00.heap.size w00 w)
    (z : tb < w00.heap.size ∧ mb < w00.heap.size ∧ sb < w00.heap.size) (k1 : w00.cell? ⟨tb, 0, none⟩ = some (.pointer (some ⟨T, 0, none⟩))) (k3 : w00.cell? ⟨mb, 0, none⟩ = some (.slice A m.length c)) (k4 : w00.cell? ⟨sb, 0, none⟩ = some (.slice (some ⟨S, 0, none⟩) m.length m.length))
    (zU : w00.heap.size ≤ U ∧ w00.heap.size ≤ Mb ∧ Mb < w.heap.size ∧ Mb ≠ U) (k2 : w.cell? ⟨Mb, 0, none⟩ = some (.slice (some ⟨U, 0, none⟩) m.length m.length)) (hM : Much w U m l (i + 1)) :
    Calls Tryd.prog 47 (#[I i] ++ #[.pointer (some ⟨tb, 0, none⟩), .pointer (some ⟨Mb, 0, none⟩), .pointer (some ⟨mb, 0, none⟩), .pointer (some ⟨sb, 0, none⟩)]) w fun e w' => e = .returned (.tuple #[]) ∧ Much w' U m l i ∧ Frm w.heap.size (· = U) w w' := by
  simp only [List.append_toArray, List.cons_append, List.nil_append]
  obtain ⟨vs, hMb, hMl, hMe⟩ := hM
  have HMB := Lib.hid hMb
  have HME := Lib.hid hMe
  have HML := Lib.hid hMl
  have hUz := hMb.1
  obtain ⟨Fb, hFz, f1, hrow⟩ := hT00.from_
  obtain ⟨RA, rc, r1, r2, r3, r4⟩ := hrow i hi
  have hTz := hT00.hT
  have hn16 := hT00.ok.le
  have HMO := Lib.hid hT00.ok
  have HFE := Lib.hid hfe
  have hkl : (kids m i).length ≤ 16 := Nat.le_trans (by have := List.length_filter_le (fun k => decide (parW m k = (i : Int))) (List.range m.length); simpa [kids] using this) hn16
  have b0 : (0 : Int) ≤ (i : Int) := by omega
  have b1 : (i : Int) < (m.length : Int) := by omega
  have HHM := Lib.hid hT00.hm
  have hSz := hS00.1
  obtain ⟨t0, t1, _, _⟩ := hS00.2 i (by rw [toldL_len]; exact hi)
  rw [toldL_get] at t0 t1
  generalize hTT : toldW l i = TT at t0 t1
  obtain ⟨Tlo, Thi⟩ := TT
  have HTT := Lib.hid hTT
  simp only at t0 t1
  clear hTT
  obtain ⟨z1, z3, z4⟩ := z
  obtain ⟨u1, u2, u3, u4⟩ := zU
  have HLOW : Hid (∀ W, Below w00.heap.size w00 W → W.cell? ⟨T, 1, none⟩ = some (.slice (some ⟨Fb, 0, none⟩) m.length m.length) ∧ W.cell? ⟨Fb, i, none⟩ = some (.slice RA (kids m i).length rc) ∧ W.cell? ⟨tb, 0, none⟩ = some (.pointer (some ⟨T, 0, none⟩)) ∧ W.cell? ⟨mb, 0, none⟩ = some (.slice A m.length c) ∧
      W.cell? ⟨sb, 0, none⟩ = some (.slice (some ⟨S, 0, none⟩) m.length m.length) ∧ W.cell? ⟨S, i * 2, none⟩ = some (I Tlo) ∧ W.cell? ⟨S, i * 2 + 1, none⟩ = some (I Thi) ∧ Ints W W.heap.size RA ((kids m i).map fun k : Nat => (k : Int)) ∧ Pairs W W.heap.size A m) := Lib.hid fun W hB =>
    ⟨(hB.cell (p := ⟨_, _, none⟩) hTz).trans f1, (hB.cell (p := ⟨_, _, none⟩) hFz).trans r1, (hB.cell (p := ⟨_, _, none⟩) z1).trans k1, (hB.cell (p := ⟨_, _, none⟩) z3).trans k3, (hB.cell (p := ⟨_, _, none⟩) z4).trans k4,
      (hB.cell (p := ⟨_, _, none⟩) hSz).trans t0, (hB.cell (p := ⟨_, _, none⟩) hSz).trans t1, (r4.below hB).more hB.size, (HHM.out.below hB).more hB.size⟩
  have HB00 := Lib.hid hB00
  have hzz := hB00.size
  obtain ⟨l1, l2, l3, l4, l5, l6, l7, _, _⟩ := HLOW.out w hB00
  have q1 : T < w.heap.size := by omega
  have q2 : Fb < w.heap.size := by omega
  have q3 : tb < w.heap.size := by omega
  have q4 : mb < w.heap.size := by omega
  have q5 : sb < w.heap.size := by omega
  have q6 : S < w.heap.size := by omega
  clear hrow hT00 f1 r1 r4 hfe hS00 k1 k3 k4 hMb hMe hMl hB00 t0 t1
  go_enter Tryd.func47, Tryd.ntmps47
  go_wp2_with (fail)
  have hBz : Below w.heap.size w ((w.alloc (.cells #[I 0] 3)).alloc (.cells #[I 0, .slice (some ⟨w.heap.size, 0, none⟩) 1 1] 89)) := by (repeat' (first | assumption | exact Below.refl _ _ | refine Below.drew ?_ | refine below_drewN ?_ _ | refine Below.setCell ?_ (by first | omega | (simp; done) | (simp; omega)) _ | refine Below.alloc ?_ (by first | omega | (simp; done) | (simp; omega)) _ | refine Below.trans ?_ (Below.mono (by assumption) (by first | omega | (simp; done) | (simp; omega)))))
  have HC0 : Hid (CurN w.heap.size ((w.alloc (.cells #[I 0] 3)).alloc (.cells #[I 0, .slice (some ⟨w.heap.size, 0, none⟩) 1 1] 89)) (w.heap.size + 1) m l i 0) := Lib.hid ⟨0, w.heap.size, 0, 1, 1, [0], by
      have := Box.new (w.alloc (.cells #[I 0] 3)) [I 0, .slice (some ⟨w.heap.size, 0, none⟩) 1 1] 89
      rwa [World.size_alloc] at this, rfl, by omega, by omega, ⟨by simp; omega, by omega, Nat.le_refl _⟩, fun k hk => by
        obtain rfl : k = 0 := by simpa using hk
        simp [go_sem], by rw [List.take_zero]; exact best_nil⟩
  generalize (w.alloc (.cells #[I 0] 3)).alloc (.cells #[I 0, .slice (some ⟨w.heap.size, 0, none⟩) 1 1] 89) = wz at *
  have g1 : (((kids m i).length : Int) == 0) = false := by simpa using hkn
  have g2 : ((kids m i).length == 0) = false := by simpa using hkn
  have hkp : 0 < (kids m i).length := List.length_pos_iff.2 hkn
  clear l1 l2 l3 l4 l5 l6 l7
  go_loopw [20] (fun s wr => ∃ k : Nat, k ≤ (kids m i).length ∧ s = I k ∧ Below w.heap.size w wr ∧ Hid (CurN w.heap.size wr (w.heap.size + 1) m l i k)) (fun s _ => (kids m i).length - (intOf s).toNat)
  case atStart => exact ⟨0, Nat.zero_le _, rfl, hBz, HC0⟩
  case round =>
    clear HC0 hBz
    obtain ⟨k, hk, rfl, hB, HC⟩ := hrel
    have hBr : Below w00.heap.size w00 wr := HB00.out.trans (hB.mono hzz)
    have hwz := hB.size
    obtain ⟨l1, l2, l3, l4, l5, l6, l7, hI0, hP0⟩ := HLOW.out wr hBr
    obtain ⟨f, Sg, o, N, cc, L, e1, e2, e3, e4, e5, e6, e7⟩ := HC.out
    obtain ⟨x0, y0⟩ := e1.at_ 0 _ rfl
    obtain ⟨x1, y1⟩ := e1.at_ 1 _ rfl
    have HE1 := Lib.hid e1
    have k2' := (hB.cell (p := ⟨Mb, 0, none⟩) u3).trans k2
    have hobz := e1.1
    by_cases hlt : k < (kids m i).length
    · obtain ⟨b, off, rfl, hbz, hcs⟩ := hI0 (by simpa using (show 0 < (kids m i).length by omega))
      have hx0 := hcs k (by simpa using hlt)
      simp only [List.getElem_map] at hx0
      have hxm := kids_lt (List.getElem_mem hlt)
      have hxg := kid_gt HMO.out (List.getElem_mem hlt)
      obtain ⟨va, vb, v1, v2, hE⟩ := HME.out _ hxm (by omega)
      obtain ⟨g, Sx, ox, Nx, cx, M, rfl, rfl, m1, m2, m3, m4, m5, m6⟩ := hE
      have HNX : Hid (∀ R, ConvR L M R → BestP (PAtt m l ((kids m i).take (k + 1))) (f + g) R) := Lib.hid fun R hR => best_plus (kids_nodup m i) hlt e7 m6 hR
      obtain ⟨p1, p2, p3⟩ := best_pbd HMO.out e7 (by omega) (by simp; omega)
      obtain ⟨p4, p5, p6⟩ := best_bd HMO.out m6 (by omega)
      obtain ⟨NN, hNN⟩ : ∃ NN, NN + 1 = N + Nx := ⟨N + Nx - 1, by omega⟩
      have HPL : Hid (∀ W, Below wr.heap.size wr W → Calls Tryd.prog 48 #[.agg #[I f, .slice (some ⟨Sg, o, none⟩) N cc], .agg #[I g, .slice (some ⟨Sx, ox, none⟩) Nx cx]] W fun e w' => ∃ S R, e = .returned (.agg #[I (f + g), .slice (some ⟨S, 0, none⟩) NN NN]) ∧ W.heap.size ≤ S ∧ Box w' S (R.map I) ∧ Below W.heap.size W w' ∧ ConvR L M R) := Lib.hid fun W hW =>
        plus48 f g Sg o cc Sx ox cx N Nx NN L M e2 m1 ⟨e3, by omega⟩ ⟨m2, by omega⟩ hNN ⟨p1, by omega⟩ ⟨p4, by omega⟩ (fun x hx => by have := p3 x hx; omega) (fun x hx => by have := p6 x hx; omega) W ⟨by have := hW.size; omega, by have := hW.size; omega⟩
          (fun k hk => (hW.cell (p := ⟨_, _, none⟩) e5.1).trans (e6 k hk)) (fun k hk => (hW.cell (p := ⟨_, _, none⟩) (show Sx < wr.heap.size by omega)).trans ((hB.cell (p := ⟨_, _, none⟩) m4.1).trans (m5 k hk)))
      have w1 := (hB.cell (p := ⟨U, _, none⟩) hUz).trans (HMB.out.at_ _ _ v1).1
      have w2 := (hB.cell (p := ⟨U, _, none⟩) hUz).trans (HMB.out.at_ _ _ v2).1
      generalize (kids m i)[k] = x at *
      have b2 : (0 : Int) ≤ (x : Int) := by omega
      have b3 : (x : Int) < (m.length : Int) := by omega
      have HHB := Lib.hid hB
      have HLE := Lib.hid (show L.length + M.length = NN + 1 by omega)
      clear p3 p6 e6 e7 m5 m6 hcs hI0 hP0 hB hBr HC v1 v2
      go_wp2_with (fail)
      refine (wpIn_wide (n := 9)).1 ?_
      refine wpIn_region_plan (Plan.ons [0, 1, 2, 3, 4, 5, 6] .fin) [] (fun _ => True) [] rfl (by kernel_rfl) (by kernel_rfl) (fun _ d _ _ _ h => by cases d <;> exact h) trivial ?_
      iterate 5 (refine ordQ_li rfl rfl rfl (fun K hK => ?_); go_simp; refine hK _ ?_; clear hK K)
      refine ordQ_hv rfl rfl rfl (fun K hK => ?_)
      gi_wp2_with (refine And.intro trivial ?_; gi_at_call 48; refine callsIn_wide.2 ((HPL.out _ (Below.refl _ _).drew).mono ?_); rintro e w5 ⟨S', R, rfl, hS', hR, hB5, hcv⟩)
      have hb5 : Below wr.heap.size wr w5 := by simpa using (Below.refl _ _).drew.trans hB5
      refine hK _ _ (fun _ => trivial) ?_
      clear hK K hB5
      have hE5 := HE1.out.call hb5
      obtain ⟨x0', y0'⟩ := hE5.at_ 0 _ rfl
      obtain ⟨x1', y1'⟩ := hE5.at_ 1 _ rfl
      have hS2 : wr.heap.size ≤ S' := hS'
      have HR := Lib.hid hR
      have HCV := Lib.hid hcv
      clear hR hcv hS'
      refine ordQ_hv rfl rfl rfl (fun K hK => ?_)
      gi_wp2
      refine hK _ _ (fun _ => trivial) ?_
      clear hK K
      refine ordQ_fin ?_
      have hzb := hb5.size
      have hB6 : Below w.heap.size w ((w5.setCell ⟨w.heap.size + 1, 0, none⟩ (I (f + g))).setCell ⟨w.heap.size + 1, 1, none⟩ (.slice (some ⟨S', 0, none⟩) NN NN)) := ((HHB.out.trans (hb5.mono hwz)).setCell (by simp) _).setCell (by simp) _
      have hRl : R.length = NN := by have := HCV.out.1; have := HLE.out; omega
      have HC6 : Hid (CurN w.heap.size ((w5.setCell ⟨w.heap.size + 1, 0, none⟩ (I (f + g))).setCell ⟨w.heap.size + 1, 1, none⟩ (.slice (some ⟨S', 0, none⟩) NN NN)) (w.heap.size + 1) m l i (k + 1)) := Lib.hid ⟨f + g, S', 0, NN, NN, R, (hE5.set 0 _).set 1 _, hRl, by omega, by omega, ⟨by simpa using HR.out.1, by omega, by omega⟩, fun j hj => by
        have hne : w.heap.size + 1 ≠ S' := by omega
        have := ((HR.out.far (p := ⟨w.heap.size + 1, 0, none⟩) hne (I (f + g))).far (p := ⟨w.heap.size + 1, 1, none⟩) hne (.slice (some ⟨S', 0, none⟩) NN NN)).at_ j (I R[j]) (by simp [hj])
        rw [Nat.zero_add]
        exact this.1, HNX.out R HCV.out⟩
      clear x0' y0' x1' y1' hE5 x0 x1 y0 y1 l1 l2 l3 l4 l5 l6 l7 w1 w2
      go_wp2
      go_roundw
      case rel => exact ⟨k + 1, by omega, by go_num, hB6, HC6⟩
      case measure => simp [intOf]; omega
    · obtain rfl : (kids m i).length = k := by omega
      rw [List.take_length] at e7
      obtain ⟨p1, p2, p3⟩ := best_pbd HMO.out e7 (by omega) hkl
      have hcut := best_cut (T := (Tlo, Thi)) e7 (by
        obtain ⟨v, c', h⟩ := att_ne (l := l) HMO.out HFE.out hi
        obtain ⟨h1, h2⟩ := (att_node hi hkn).1 h
        rw [HTT.out] at h2
        exact ⟨v, c', h1, h2⟩)
      obtain ⟨kk, nn, k5, k6, k7, k8, k9⟩ := hcut
      rw [e2] at k6 k8
      have HBE : Hid (BestP (Att m l i) (f + (kk : Int)) ((L.take nn).drop kk)) := Lib.hid (best_node hi hkn (by rw [HTT.out]; exact k9))
      have HCT : Hid (∀ W, Calls Tryd.prog 49 #[.agg #[I f, .slice (some ⟨Sg, o, none⟩) N cc], .agg #[I Tlo, I Thi]] W fun e w' => e = .returned (.agg #[I (f + (kk : Int)), .slice (some ⟨Sg, o + kk, none⟩) (nn - kk) (cc - kk)]) ∧ Below W.heap.size W w') := Lib.hid fun W =>
        cut49 f Tlo Thi Sg o N cc kk nn W ⟨p1, by omega⟩ (by omega) e4 k5 k6 k7 k8
      have HEL := Lib.hid e6
      have HHB := Lib.hid hB
      have hlen : ((L.take nn).drop kk).length = nn - kk := by simp; omega
      have HMU : Hid (Much w U m l (i + 1)) := Lib.hid ⟨vs, HMB.out, HML.out, HME.out⟩
      obtain ⟨n1, n2, n3⟩ := e5
      clear e7 k7 k8 k9 e6 p3
      go_wp2_with (fail)
      refine wp_loop_rounds 1 ?_
      rw [rounds_succ]
      go_wp2_with (fail)
      have hUw : U < wr.heap.size := by omega
      have hMw : Mb < wr.heap.size := by omega
      have hsw : sb < wr.heap.size := by omega
      refine (wpIn_wide (n := 9)).1 ?_
      refine wpIn_region_plan (Plan.ons [0, 1, 2, 3, 4, 5, 6, 7, 8, 9] .fin) [0, 1] (fun W' => Below wr.heap.size wr W') [9] rfl (by kernel_rfl) (by kernel_rfl) (fun _ d _ _ _ h => by cases d <;> exact h) (Below.refl _ _).drew ?_
      (refine ordQ_held (.slice (some ⟨U, 0, none⟩) m.length m.length) rfl rfl rfl rfl (fun W' hC' => ?_) (fun K hK => ?_); (focus (obtain e9 := (hC'.cell (p := ⟨Mb, 0, none⟩) hMw).trans k2'; go_simp; try exact ⟨rfl, rfl⟩)); go_simp; refine hK _ ?_; clear hK K)
      (refine ordQ_held (I i) rfl rfl rfl rfl (fun W' hC' => ?_) (fun K hK => ?_); (focus (obtain _ := k2'; go_simp; try exact ⟨rfl, rfl⟩)); go_simp; refine hK _ ?_; clear hK K)
      iterate 5 (refine ordQ_li rfl rfl rfl (fun K hK => ?_); go_simp; refine hK _ ?_; clear hK K)
      refine ordQ_hv rfl rfl rfl (fun K hK => ?_)
      gi_wp2_with (refine And.intro trivial ?_; gi_at_call 49; refine callsIn_wide.2 ((HCT.out _).mono ?_); rintro e w5 ⟨rfl, hB5⟩)
      have hb5 : Below wr.heap.size wr w5 := by simpa using (Below.refl _ _).drew.trans hB5
      refine hK _ _ (fun _ => hb5) ?_
      clear hK K hB5
      (refine ordQ_li rfl rfl rfl (fun K hK => ?_); go_simp; refine hK _ ?_; clear hK K)
      have hBw5 : Below w.heap.size w w5 := HHB.out.trans (hb5.mono hwz)
      have hbu : Box w5 U vs := HMB.out.call hBw5
      have hvl := HML.out
      obtain ⟨y0', z0'⟩ := hbu.at_ (i * 2) vs[i * 2] (by simp)
      obtain ⟨y1', z1'⟩ := hbu.at_ (i * 2 + 1) vs[i * 2 + 1] (by simp)
      generalize vs[i * 2] = vv0 at *
      generalize vs[i * 2 + 1] = vv1 at *
      refine ordQ_hv rfl rfl rfl (fun K hK => ?_)
      gi_wp2
      refine hK _ _ (fun h => by cases h) ?_
      clear hK K
      refine ordQ_fin ?_
      have HMF : Hid (Much ((w5.setCell ⟨U, i * 2, none⟩ (I (f + (kk : Int)))).setCell ⟨U, i * 2 + 1, none⟩ (.slice (some ⟨Sg, o + kk, none⟩) (nn - kk) (cc - kk))) U m l i) := Lib.hid ((HMU.out.call hBw5).set hi ⟨f + (kk : Int), Sg, o + kk, nn - kk, cc - kk, (L.take nn).drop kk, rfl, rfl, hlen, by omega, by omega, ⟨by have := hb5.size; omega, by omega⟩, fun j hj => by
        rw [hlen] at hj
        have := (hb5.cell (p := ⟨Sg, o + (kk + j), none⟩) n1).trans (HEL.out (kk + j) (by omega))
        rw [Nat.add_assoc, this]
        simp, HBE.out⟩)
      have HFF : Hid (Frm w.heap.size (· = U) w ((w5.setCell ⟨U, i * 2, none⟩ (I (f + (kk : Int)))).setCell ⟨U, i * 2 + 1, none⟩ (.slice (some ⟨Sg, o + kk, none⟩) (nn - kk) (cc - kk)))) := Lib.hid (((Frm.of_below (S := (· = U)) hBw5 (Nat.le_refl _)).setCell (p := ⟨U, i * 2, none⟩) (.inr rfl) _).setCell (p := ⟨U, i * 2 + 1, none⟩) (.inr rfl) _)
      go_wp2
      refine bodyPost_end (results_none rfl _ _ _) rfl ⟨rfl, HMF.out, HFF.out⟩
end Go.Proofs.YtgdilbilhajgaaaDoor
