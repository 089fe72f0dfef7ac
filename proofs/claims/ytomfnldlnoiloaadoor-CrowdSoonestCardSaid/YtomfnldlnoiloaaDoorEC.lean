/- The document's full (42), plain: the numbers of arcs there and back, what is left behind a step. -/
import Derived.Test.YtomfnldlnoiloaaDoorEB
import Derived.Test.YtomfnldlnoiloaaDoorS7
import Derived.Laws.Bits64
import Derived.Test.YtomfnldlnoiloaaDoorS13
import Derived.Test.YtomfnldlnoiloaaDoorS12
namespace Go.Proofs.YtomfnldlnoiloaaDoor
set_option linter.unusedVariables false
set_option linter.unusedSimpArgs false
open Go Go.RowKit Go.Maps

theorem xor_even (k : Nat) : (2 * k) ^^^ 1 = 2 * k + 1 := by
  apply Nat.eq_of_testBit_eq
  intro i
  rw [Nat.testBit_xor]
  cases i with
  | zero => simp
  | succ i =>
    rw [Nat.testBit_succ, Nat.testBit_succ, Nat.testBit_succ, show 2 * k / 2 = k by omega, show (2 * k + 1) / 2 = k by omega]
    simp
theorem xor_odd (k : Nat) : (2 * k + 1) ^^^ 1 = 2 * k := by
  rw [← xor_even, Nat.xor_assoc, Nat.xor_self, Nat.xor_zero]
theorem bits_xor_i64_nat (a b : Nat) (ha : a < 4611686018427387904) (hb : b < 4611686018427387904) : bits .xor .i64 (a : Int) (b : Int) = ((a ^^^ b : Nat) : Int) := by
  have hx : a ^^^ b < 2 ^ 62 := Nat.xor_lt_two_pow (by omega) (by omega)
  have h1 : (BitVec.ofInt 64 (a : Int)).toNat = a := by
    rw [BitVec.ofInt_natCast, BitVec.toNat_ofNat]; exact Nat.mod_eq_of_lt (by omega)
  have h2 : (BitVec.ofInt 64 (b : Int)).toNat = b := by
    rw [BitVec.ofInt_natCast, BitVec.toNat_ofNat]; exact Nat.mod_eq_of_lt (by omega)
  show IntKind.i64.wrap ((BitVec.ofInt 64 (a : Int) ^^^ BitVec.ofInt 64 (b : Int)).toNat : Int) = _
  rw [BitVec.toNat_xor, h1, h2]
  exact IntWalk.i64_in _ (by omega)
theorem xor_enc (p : Stp) (h : encN p < 1000000) : bits .xor .i64 ((encN p : Nat) : Int) 1 = ((encN (flipS p) : Nat) : Int) := by
  have h1 := bits_xor_i64_nat (encN p) 1 (by omega) (by omega)
  refine h1.trans ?_
  congr 1
  obtain ⟨k, b⟩ := p
  unfold encN flipS
  cases b
  · exact xor_odd k
  · exact xor_even k
theorem encN_inj {p q : Stp} (h : encN p = encN q) : p = q := by
  obtain ⟨i, a⟩ := p
  obtain ⟨j, b⟩ := q
  unfold encN at h
  cases a <;> cases b <;> simp at h ⊢ <;> omega
/-- The arcs behind one step of a way. -/
theorem arsL_upd {L : List Arc3} {f : Nat → Int} {c : Int} {p : Stp} (hp : p.1 < L.length) :
    arsL L (upd c f p) = ((arsL L f).set (encN p) ((stF L p : Int), (stT L p : Int), roomL L f p - c)).set (encN (flipS p)) ((stF L (flipS p) : Int), (stT L (flipS p) : Int), roomL L f (flipS p) + c) := by
  apply List.ext_getElem?
  intro i
  by_cases hi : i < 2 * L.length
  · obtain ⟨q, hq, rfl⟩ : ∃ q : Stp, q.1 < L.length ∧ encN q = i := by
      refine ⟨(i / 2, decide (i % 2 = 0)), by dsimp only; omega, ?_⟩
      unfold encN
      dsimp only
      by_cases e : i % 2 = 0
      · rw [decide_eq_true e]; simp; omega
      · rw [decide_eq_false e]; simp; omega
    have hl : encN q < (arsL L f).length := encN_lt hq
    rw [arsL_at _ hq, List.getElem?_set, room_upd]
    by_cases e1 : encN (flipS p) = encN q
    · have e2 := encN_inj e1
      subst e2
      have hl2 : encN (flipS p) < ((arsL L f).set (encN p) ((stF L p : Int), (stT L p : Int), roomL L f p - c)).length := by rw [List.length_set]; exact hl
      rw [if_neg (flip_ne p)]
      simp only [if_true, hl2]
    · rw [if_neg e1, List.getElem?_set]
      by_cases e3 : encN p = encN q
      · have e4 := encN_inj e3
        subst e4
        simp only [if_true, hl]
      · rw [if_neg e3, arsL_at f hq, if_neg (fun e => e3 (by rw [e])), if_neg (fun e => e1 (by rw [e]))]
  · rw [List.getElem?_eq_none (by rw [arsL_len]; omega), List.getElem?_eq_none (by rw [List.length_set, List.length_set, arsL_len]; omega)]
theorem byD_of {L : List Arc3} {s : Nat} {ys : List Stp} {x : Nat} (h : x ∈ ordL L s ys) (hx : x ≠ s) : byD L s ys x = ((encN (byOf (stT L) ys x) : Nat) : Int) ∧ byOf (stT L) ys x ∈ ys := by
  unfold byD byOf
  rw [if_neg hx]
  unfold ordL ordS at h
  rcases List.mem_cons.1 h with h | h
  · exact absurd h hx
  · obtain ⟨p, hp, hpx⟩ := List.mem_map.1 h
    cases hf : ys.find? (fun p => stT L p == x) with
    | some q => exact ⟨encI_nat q, List.mem_of_find?_eq_some hf⟩
    | none =>
      rw [List.find?_eq_none] at hf
      exact absurd (by simpa using hpx) (hf p hp)
section
variable {N : Nat} {os : Nat → List Int} {ars : List Arc} {ob ga M ca : Nat} {rv : Nat → Value} {W : World}
/-- An arc's number is stored. -/
theorem DN.setLeft (h : DN N os ars (.slice (some ⟨ga, 0, none⟩) M ca) ob rv W) (hM : ars.length = M) (e : Nat) (he : e < ars.length) (z : Int) : DN N os (ars.set e (ars[e].1, ars[e].2.1, z)) (.slice (some ⟨ga, 0, none⟩) M ca) ob rv (W.setCell ⟨ga, e * 3 + 2, none⟩ (I z)) := by
  subst hM
  have key : ∀ {t : TypeId} {sz n : Nat} {r : Value} {xs : List Value}, t ≠ 106 → W.ownsRow 0 t sz r n xs → (W.setCell ⟨ga, e * 3 + 2, none⟩ (I z)).ownsRow 0 t sz r n xs := fun ht ho => own_at ho fun g' hg' => Below.heap_setCell _ _ _ _ (by
    intro e2
    rcases own_ne ho h.arcs ht with h2 | h2
    · rw [h2] at hg'; cases hg'
    · exact h2 (hg'.trans (by rw [e2]; rfl)))
  refine ⟨?_, key (by decide) h.out, fun x hx => key (by decide) (h.rows x hx), h.apart⟩
  have := (h.arcs.stored (e * 3 + 2) (I z)).1
  rw [← flat3_set ars e z he] at this
  simpa using this
end
theorem netD_len {v : Vis} (hv : VisOk v) {p m : Nat} (hm : m ≤ 60) : (netD v p m).length ≤ 2000 ∧ 0 < (netD v p m).length := by
  rw [netD_eq, List.length_append, List.length_singleton]
  have := dT_len hv m (m + 1)
  omega
theorem netD_most {v : Vis} (hv : VisOk v) {p m : Nat} (hp : p < v.n) {f : Nat → Int} (hF : FlowL (netD v p m) (snkN v m + 1) (srcN v m) (snkN v m) f) : outAt (frL (netD v p m)) (toL (netD v p m)) f (netD v p m).length (srcN v m) ≤ v.room p := by
  have h := flow_most hF (by unfold snkN; omega)
  rw [(most_sink (v := v) (p := p) (m := m) hv hp).2] at h
  exact h
end Go.Proofs.YtomfnldlnoiloaaDoor

/- The document's full (42): the walk. Printed by mkE8.py. -/
namespace Go.Proofs.YtomfnldlnoiloaaDoor
set_option linter.unusedVariables false
set_option linter.unusedSimpArgs false
open Go Go.RowKit Go.Maps

set_option maxRecDepth 100000 in
set_option maxHeartbeats 16000000 in
theorem full42 (v : Vis) (hv : VisOk v) (A1 A2 A3 : Option Addr) (q1 q2 q3 p m : Nat) (hp : p < v.n) (hm : m ≤ 60) (w : World) (hI : VisAt w w.heap.size v A1 A2 A3) :
    Calls Tryd.prog 42 #[visV v A1 A2 A3 q1 q2 q3, I p, I m] w fun e w' => ∃ av ob rv f val, e = .returned (.tuple #[netV (snkN v m + 1) av ob, I (srcN v m : Nat), I val]) ∧ DN (snkN v m + 1) (osL (netD v p m)) (arsL (netD v p m) f) av ob rv w' ∧
      FlowL (netD v p m) (snkN v m + 1) (srcN v m) (snkN v m) f ∧ MostIs v p m val (reachL (netD v p m) f (srcN v m) (snkN v m + 1)) ∧ Below w.heap.size w w' := by
  obtain ⟨L, hL⟩ : ∃ L, netD v p m = L := ⟨_, rfl⟩
  obtain ⟨s, hs⟩ : ∃ s, srcN v m = s := ⟨_, rfl⟩
  have hsn : snkN v m = s + 1 := by rw [← hs]; rfl
  have hs488 := srcN_le hv hm
  have HOK : Hid (NetOk L (s + 2) s) := Lib.hid (by
    have h := netD_ok hv (p := p) (m := m) hp
    rw [hL, hsn, hs] at h
    exact h)
  have hLl := netD_len hv (p := p) hm
  have HMO : Hid (∀ f, FlowL L (s + 2) s (s + 1) f → outAt (frL L) (toL L) f L.length s ≤ v.room p) := Lib.hid fun f h => by
    have h2 := netD_most hv (p := p) (m := m) hp (f := f)
    rw [hL, hsn, hs] at h2
    exact h2 h
  have HMI : Hid (∀ f, FlowL L (s + 2) s (s + 1) f → s + 1 ∉ ordL L s (bfsL L f s (s + 2)) → MostIs v p m (outAt (frL L) (toL L) f L.length s) (reachL L f s (s + 2))) := Lib.hid fun f h1 h2 => by
    have h := least_of HOK.out h1 h2
    unfold MostIs
    rw [hL, hsn, hs]
    exact h
  have hroom := hv.room p hp
  have hlp := hLl.2
  rw [hL] at hlp
  obtain ⟨M, hM⟩ : ∃ M, 2 * L.length = M := ⟨_, rfl⟩
  have HM := Lib.hid hM
  have HNW : Hid (∀ W, Below w.heap.size w W → Calls Tryd.prog 54 #[visV v A1 A2 A3 q1 q2 q3, I p, I m] W fun e w' => ∃ ga ca ob rv, e = .returned (.tuple #[netV (s + 2) (.slice (some ⟨ga, 0, none⟩) M ca) ob, I (s : Nat)]) ∧ DN (s + 2) (osL L) (arsL L (fun _ => 0)) (.slice (some ⟨ga, 0, none⟩) M ca) ob rv w' ∧ (∀ g, DNb (s + 2) (.slice (some ⟨ga, 0, none⟩) M ca) ob rv g → W.heap.size ≤ g) ∧ Below W.heap.size W w') := Lib.hid fun W h => by
    have := network54 v hv A1 A2 A3 q1 q2 q3 p m hp hm W ((hI.below h).more h.size)
    rw [hL, hsn, hs] at this
    refine this.mono ?_
    rintro e w' ⟨av, ob, rv, h1, h2, h3, h4⟩
    obtain ⟨A, ca, rfl, harc⟩ := h2.arc
    have hl : (arsL L (fun _ => 0)).length = M := by rw [arsL_len]; exact hM
    obtain ⟨ga, rfl, _⟩ := harc 0 (by rw [hl]; omega)
    rw [hl] at h1 h2 h3
    exact ⟨ga, ca, ob, rv, h1, h2, h3, h4⟩
  clear hM hlp
  rw [hL, hsn, hs]
  rw [hs] at hs488
  rw [hL] at hLl
  clear hL hsn hs hI hv hp hm
  obtain ⟨N, hN⟩ : ∃ N, s + 2 = N := ⟨_, rfl⟩
  rw [show s + 1 + 1 = s + 2 from rfl]
  rw [hN] at HOK HMO HMI HNW ⊢
  have HNE := Lib.hid hN
  have hsN : s < N := by omega
  have htN : s + 1 < N := by omega
  have hNb : N ≤ 1000 := by omega
  have hz0 := flow_zero (t := s + 1) HOK.out
  have HF0 : Hid (FlowL L N s (s + 1) (fun _ => 0) ∧ (0 : Int) = outAt (frL L) (toL L) (fun _ => 0) L.length s) := Lib.hid ⟨hz0.1, hz0.2.symm⟩
  obtain ⟨w2, hw2⟩ : ∃ y, (w.alloc (.cells #[.slice A1 v.rm.length q1, .slice A2 v.tr.length q2, .slice A3 v.ar.length q3] 26)).alloc (.cells #[.slice none 0 0, .slice none 0 0] 82) = y := ⟨_, rfl⟩
  have hz2 : w.heap.size + 1 < w2.heap.size := by rw [← hw2]; simp
  have HB2 : Hid (Below w.heap.size w w2) := Lib.hid (by rw [← hw2]; (repeat' (first | assumption | exact Below.refl _ _ | refine Below.drew ?_ | refine below_drewN ?_ _ | refine Below.setCell ?_ (by first | omega | (simp; done) | (simp; omega)) _ | refine Below.alloc ?_ (by first | omega | (simp; done) | (simp; omega)) _ | refine Below.trans ?_ (Below.mono (by assumption) (by first | omega | (simp; done) | (simp; omega))))))
  have b1 : Box w2 w.heap.size [.slice A1 v.rm.length q1, .slice A2 v.tr.length q2, .slice A3 v.ar.length q3] := by rw [← hw2]; exact (Box.new w [.slice A1 v.rm.length q1, .slice A2 v.tr.length q2, .slice A3 v.ar.length q3] 26).alloc _
  have b2 : Box w2 (w.heap.size + 1) [.slice none 0 0, .slice none 0 0] := by
    have h := Box.new (w.alloc (.cells #[.slice A1 v.rm.length q1, .slice A2 v.tr.length q2, .slice A3 v.ar.length q3] 26)) [.slice none 0 0, .slice none 0 0] 82
    rw [World.size_alloc] at h
    rw [← hw2]; exact h
  obtain ⟨x0, -⟩ := b1.at_ 0 _ rfl
  obtain ⟨x1, -⟩ := b1.at_ 1 _ rfl
  obtain ⟨x2, -⟩ := b1.at_ 2 _ rfl
  have hl1 := hLl.1
  have hl2 := hLl.2
  clear hz0 hN b1 hLl
  go_enter Tryd.func42, Tryd.ntmps42
  go_upto_region 2 with (first
    | (go_at_call 54; refine (HNW.out _ HB2.out).mono ?_; rintro e w3 ⟨ga, ca, ob, rv, rfl, hD, hbk, hB3⟩)
    | fail)
  have hMle : M ≤ 4000 := by have := HM.out; omega
  have hgz : ga < w3.heap.size := hD.lt ga (.inl rfl)
  have hga : w2.heap.size ≤ ga := hbk ga (.inl rfl)
  have hz3 := hB3.size
  obtain ⟨g9, hg9⟩ : ∃ y, w3.heap.size = y := ⟨_, rfl⟩
  obtain ⟨w4, hw4⟩ : ∃ y, w3.alloc (.cells #[.slice (some ⟨ga, 0, none⟩) M ca, .slice (some ⟨ob, 0, none⟩) N N] 82) = y := ⟨_, rfl⟩
  have hB4 : Below w3.heap.size w3 w4 := by rw [← hw4]; exact below1 _ _
  have HD4 : Hid (DN N (osL L) (arsL L (fun _ => 0)) (.slice (some ⟨ga, 0, none⟩) M ca) ob rv w4) := Lib.hid (hD.below hB4)
  have HX4 : Hid (Box w4 (w.heap.size + 1) [.slice none 0 0, .slice none 0 0] ∧ Box w4 g9 [.slice (some ⟨ga, 0, none⟩) M ca, .slice (some ⟨ob, 0, none⟩) N N]) := Lib.hid ⟨(b2.call hB3).call hB4, by rw [← hw4, ← hg9]; exact Box.new w3 [.slice (some ⟨ga, 0, none⟩) M ca, .slice (some ⟨ob, 0, none⟩) N N] 82⟩
  have HB4 : Hid (Below w.heap.size w w4) := Lib.hid (HB2.out.trans ((hB3.trans (hB4.mono hz3)).mono (by omega)))
  have hg9a : ga < g9 := by omega
  have HBK : Hid (∀ g, DNb N (.slice (some ⟨ga, 0, none⟩) M ca) ob rv g → w2.heap.size ≤ g ∧ g < g9) := Lib.hid fun g hg => ⟨hbk g hg, by have := hD.lt g hg; omega⟩
  try rw [hw4]
  try rw [hg9]
  try rw [hw4]
  clear hw4 hg9 hD hbk hgz hB3 hB4 hw2 b2 x0 x1 x2
  obtain ⟨y0, -⟩ := HX4.out.2.at_ 0 _ rfl
  go_wp2_with (fail)
  go_loopw [12] (fun s12 wr => ∃ (f : Nat → Int) (val : Int), s12 = I val ∧ 0 ≤ val ∧ Hid (FlowL L N s (s + 1) f ∧ val = outAt (frL L) (toL L) f L.length s) ∧ Hid (DN N (osL L) (arsL L f) (.slice (some ⟨ga, 0, none⟩) M ca) ob rv wr) ∧ Hid (Box wr (w.heap.size + 1) [.slice none 0 0, .slice none 0 0] ∧ Box wr g9 [.slice (some ⟨ga, 0, none⟩) M ca, .slice (some ⟨ob, 0, none⟩) N N]) ∧ Hid (Below w.heap.size w wr)) (fun s12 _ => 1001 - (intOf s12).toNat)
  case atStart => exact ⟨fun _ => 0, 0, rfl, by omega, HF0, HD4, HX4, HB4⟩
  case round =>
    obtain ⟨f, val, rfl, hval, HFL, HD, HX, HB⟩ := hrel
    clear HF0 HD4 HX4 HB4 y0
    obtain ⟨y0, -⟩ := HX.out.2.at_ 0 _ rfl
    obtain ⟨y1, -⟩ := HX.out.2.at_ 1 _ rfl
    have hvm : val ≤ v.room p := by rw [HFL.out.2]; exact HMO.out f HFL.out.1
    have HRM : Hid (∀ p : Stp, p.1 < L.length → 0 ≤ roomL L f p ∧ roomL L f p ≤ 10000000) := Lib.hid fun p hp => by
      have h1 := room_pos HFL.out.1 hp
      have h2 := HOK.out.capi hp
      omega
    have H48 : Hid (Calls Tryd.prog 48 #[.agg #[.slice (some ⟨ga, 0, none⟩) M ca, .slice (some ⟨ob, 0, none⟩) N N], I s] wr fun e w' => ∃ B, e = .returned (.slice (some ⟨B, 0, none⟩) N N) ∧ Box w' B ((thL N (byD L s (bfsL L f s N))).map I) ∧ wr.heap.size ≤ B ∧ Below wr.heap.size wr w') := Lib.hid (reached48 L f N s (.slice (some ⟨ga, 0, none⟩) M ca) ob rv wr HOK.out HNE.out.symm hNb (by omega) HRM.out HD.out)
    have ht0 : (0 : Int) ≤ ((s + 1 : Nat) : Int) := by omega
    have ht1 : ((s + 1 : Nat) : Int) < (N : Int) := by omega
    have hws : IntKind.i64.wrap ((s : Int) + 1) = ((s + 1 : Nat) : Int) := (IntWalk.i64_in _ (by omega)).trans (by push_cast; rfl)
    obtain ⟨st, hst⟩ : ∃ y, s + 1 = y := ⟨_, rfl⟩
    have HST := Lib.hid hst
    rw [hst] at ht0 ht1 hws HFL htN
    clear hst
    go_upto_region 5 with (first
      | (go_at_call 48; refine H48.out.mono ?_; rintro e w5 ⟨B, rfl, hBox, hBz, hB5⟩)
      | fail)
    obtain ⟨ys, hys⟩ : ∃ y, bfsL L f s N = y := ⟨_, rfl⟩
    have HYS := Lib.hid hys
    rw [hys] at hBox
    have HBY := Lib.hid hBox
    have HB5 := Lib.hid hB5
    have hz5 := hB5.size
    have hBga : ga < B := by have := HX.out.2.1; omega
    have HX5 : Hid (Box w5 (w.heap.size + 1) [.slice none 0 0, .slice none 0 0] ∧ Box w5 g9 [.slice (some ⟨ga, 0, none⟩) M ca, .slice (some ⟨ob, 0, none⟩) N N]) := Lib.hid ⟨HX.out.1.call hB5, HX.out.2.call hB5⟩
    have HD5 := Lib.hid (HD.out.below hB5)
    have HBW5 := Lib.hid (HB.out.trans (hB5.mono HB.out.size))
    obtain ⟨bt, -⟩ := hBox.at_ st _ (thL_at _ htN)
    clear hBox hB5 hys y0 y1 H48
    by_cases hin : st ∈ ordL L s ys
    · have hbt := byD_yes hin
      obtain ⟨l, hw1, hw2', hw3', hw4', hw5', hw6', hw7'⟩ := way_of HFL.out.1 (by have := HST.out; omega) (bfsL_srch L f s N) bfsL_arcs (by rw [HYS.out]; exact hin) (c0 := 1073741824) (by omega)
      rw [HYS.out] at hw1 hw3'
      obtain ⟨cc, hcc⟩ : ∃ y, minR (roomL L f) l 1073741824 = y := ⟨_, rfl⟩
      rw [hcc] at hw2' hw3' hw6' hw7'
      have hcle : cc ≤ 1073741824 := by rw [← hcc]; exact minR_le.1
      have hcc0 : 0 < cc := hw2'
      have HCC := Lib.hid hcc
      have HWY := Lib.hid (And.intro hw1 (And.intro hw3' (And.intro hw4' (And.intro hw6' hw7'))))
      have hNV : val + cc ≤ v.room p := by
        have h1 := HMO.out _ (by rw [← HST.out] at hw6'; exact hw6')
        rw [hw7', ← HFL.out.2] at h1
        exact h1
      obtain ⟨bz, hbz⟩ : ∃ y, byD L s ys st = y := ⟨_, rfl⟩
      rw [hbz] at bt hbt
      have hbe : (bz == -1) = false := beq_eq_false_iff_ne.2 hbt
      have HIN := Lib.hid hin
      have HSA : Hid (∀ q, q ∈ ys → q.1 < L.length) := Lib.hid (by rw [← HYS.out]; exact bfsL_arcs)
      have HON : Hid (∀ x, x ∈ ordL L s ys → x < N) := Lib.hid fun x hx => by
        unfold ordL ordS at hx
        rcases List.mem_cons.1 hx with rfl | hx
        · exact hsN
        · obtain ⟨q, hq, rfl⟩ := List.mem_map.1 hx
          have := hq
          rw [← HYS.out] at this
          obtain ⟨y, hy⟩ := bfs_mem this
          exact HOK.out.stT hy
      -- what a round reads at node x
      have HRD : Hid (∀ x, x ∈ ordL L s ys → x ≠ s → (byOf (stT L) ys x).1 < L.length ∧ encN (byOf (stT L) ys x) < M ∧ byD L s ys x = ((encN (byOf (stT L) ys x) : Nat) : Int) ∧ stF L (byOf (stT L) ys x) ∈ ordL L s ys) := Lib.hid fun x hx hxs => by
        obtain ⟨h1, h2⟩ := byD_of hx hxs
        have h3 := HSA.out _ h2
        have h4 := encN_lt (f := f) h3
        rw [arsL_len, HM.out] at h4
        refine ⟨h3, h4, h1, ?_⟩
        have hsr := bfsL_srch L f s N
        rw [HYS.out] at hsr
        obtain ⟨i, hi, e⟩ := List.getElem_of_mem h2
        obtain ⟨_, j, _, hj⟩ := hsr.from_ i hi
        rw [e] at hj
        exact List.mem_of_getElem? hj
      have HARF : Hid (∀ (g : Nat → Int) (W : World), DN N (osL L) (arsL L g) (.slice (some ⟨ga, 0, none⟩) M ca) ob rv W → ∀ q : Stp, q.1 < L.length → W.cell? ⟨ga, encN q * 3, none⟩ = some (I (stF L q : Nat)) ∧ W.cell? ⟨ga, encN q * 3 + 2, none⟩ = some (I (roomL L g q)) ∧ W.frozen? ⟨ga, encN q * 3 + 2, none⟩ = false) := Lib.hid fun g W h q hq => by
        obtain ⟨A', c', e1, harc⟩ := h.arc
        have hlt := encN_lt (f := g) hq
        obtain ⟨ga', e2, _, k1, _, k3, k4⟩ := harc _ hlt
        subst e2
        injection e1 with e1 _ _
        injection e1 with e1
        injection e1 with e1 _ _
        subst e1
        have hat := arsL_at g hq
        rw [List.getElem?_eq_getElem hlt] at hat
        injection hat with hat
        rw [hat] at k1 k3
        exact ⟨k1, k3, k4⟩
      clear hin hw1 hw2' hw3' hw4' hw5' hw6' hw7' hcc hbz HX HD
      go_upto_if 42 with (fail)
      go_loopg [14, 15] l.length (fun g u14 u15 wi => ∃ (x : Nat) (done rest : List Stp), u15 = I (x : Nat) ∧ u14 = I (minR (roomL L f) done 1073741824) ∧ Hid (g = rest.length ∧ l = done ++ rest ∧ Back (frL L) (toL L) (byOf (stT L) ys) s x rest ∧ x ∈ ordL L s ys) ∧ Hid (Below w5.heap.size w5 wi))
      case atStart => exact ⟨st, [], l, rfl, rfl, Lib.hid ⟨rfl, rfl, HWY.out.1, HIN.out⟩, Lib.hid (Below.refl _ _)⟩
      case round =>
        obtain ⟨x, done, rest, rfl, rfl, HDO, HBi⟩ := hrel
        clear bt
        obtain ⟨dm, hdm⟩ : ∃ y, minR (roomL L f) done 1073741824 = y := ⟨_, rfl⟩
        have HDM := Lib.hid hdm
        rw [hdm]
        clear hdm
        cases rest with
        | nil =>
          have hxs : x = s := by
            have hbk := HDO.out.2.2.1
            cases hbk with
            | nil => rfl
          have hdl : l = done := by have := HDO.out.2.1; rwa [List.append_nil] at this
          have hdc : dm = cc := by rw [← HDM.out, ← hdl]; exact HCC.out
          subst hdc
          subst hxs
          have hcv : IntKind.i64.wrap (val + dm) = val + dm := IntWalk.i64_in _ (by omega)
          have HDj : Hid (DN N (osL L) (arsL L f) (.slice (some ⟨ga, 0, none⟩) M ca) ob rv wr ∧ Frm wr.heap.size (fun y => y = ga) wr wr) := Lib.hid ⟨HD5.out.below HBi.out, Frm.refl _ _ _⟩
          have HBYr := Lib.hid (HBY.out.call HBi.out)
          have HXr : Hid (Box wr (w.heap.size + 1) [.slice none 0 0, .slice none 0 0] ∧ Box wr g9 [.slice (some ⟨ga, 0, none⟩) M ca, .slice (some ⟨ob, 0, none⟩) N N]) := Lib.hid ⟨HX5.out.1.call HBi.out, HX5.out.2.call HBi.out⟩
          have HBWr := Lib.hid (HBW5.out.trans (HBi.out.mono HBW5.out.size))
          have hgw : ga < w5.heap.size := by have := HX5.out.2.1; omega
          have hzi := HBi.out.size
          obtain ⟨we, hwe⟩ : ∃ y, y = wr := ⟨_, rfl⟩
          subst hwe
          clear HDO HDM HCC
          go_upto_if 65 with (fail)
          go_loopg [16] l.length (fun g u16 wi => ∃ (x2 : Nat) (done rest : List Stp), u16 = I (x2 : Nat) ∧ Hid (g = rest.length ∧ l = done ++ rest ∧ Back (frL L) (toL L) (byOf (stT L) ys) x x2 rest ∧ x2 ∈ ordL L x ys) ∧ Hid (DN N (osL L) (arsL L (done.foldl (upd dm) f)) (.slice (some ⟨ga, 0, none⟩) M ca) ob rv wi ∧ Frm we.heap.size (fun y => y = ga) we wi))
          case atStart => exact ⟨st, [], l, rfl, Lib.hid ⟨rfl, rfl, HWY.out.1, HIN.out⟩, HDj⟩
          case round =>
            obtain ⟨x2, done2, rest, rfl, HDO, HDi⟩ := hrel
            clear HDj
            cases rest with
            | nil =>
              have hxs : x2 = x := by
                have hbk := HDO.out.2.2.1
                cases hbk with
                | nil => rfl
              have hdl : l = done2 := by have := HDO.out.2.1; rwa [List.append_nil] at this
              subst hxs
              subst hdl
              have HXn : Hid (Box wr (w.heap.size + 1) [.slice none 0 0, .slice none 0 0] ∧ Box wr g9 [.slice (some ⟨ga, 0, none⟩) M ca, .slice (some ⟨ob, 0, none⟩) N N]) := Lib.hid ⟨HXr.out.1.frm HDi.out.2 HXr.out.1.1 (by omega), HXr.out.2.frm HDi.out.2 HXr.out.2.1 (by omega)⟩
              have HBn : Hid (Below w.heap.size w wr) := Lib.hid (HBWr.out.trans (HDi.out.2.below HBWr.out.size (fun k hk e => by omega)))
              have HFn : Hid (FlowL L N x2 st (l.foldl (upd dm) f) ∧ val + dm = outAt (frL L) (toL L) (l.foldl (upd dm) f) L.length x2) := Lib.hid ⟨HWY.out.2.2.2.1, by rw [HWY.out.2.2.2.2, ← HFL.out.2]⟩
              have HDn := Lib.hid HDi.out.1
              clear HDO HDi
              go_wp2_with (fail)
              go_roundw
              case rel => exact ⟨_, val + dm, rfl, by omega, by rw [HST.out]; exact HFn, HDn, HXn, HBn⟩
              case measure => simp [intOf]; omega
            | cons q rest' =>
              have hbk := HDO.out.2.2.1
              obtain ⟨hq, hx2, hbk2⟩ : q = byOf (stT L) ys x2 ∧ x2 ≠ x ∧ Back (frL L) (toL L) (byOf (stT L) ys) x (stF L q) rest' := by
                cases hbk with
                | cons h1 h2 => exact ⟨rfl, h1, h2⟩
              obtain ⟨k1, k2, k3, k4⟩ := HRD.out x2 HDO.out.2.2.2 hx2
              rw [← hq] at k1 k2 k3 k4
              have hxN := HON.out x2 HDO.out.2.2.2
              obtain ⟨fj, hfj⟩ : ∃ y, done2.foldl (upd dm) f = y := ⟨_, rfl⟩
              rw [hfj] at HDi
              have hnear : ∀ i, f i - dm ≤ fj i ∧ fj i ≤ f i + dm := fun i => by
                have hd : done2 = l.take done2.length := by rw [HDO.out.2.1, List.take_left]
                rw [← hfj, hd]
                exact upd_near HWY.out.2.2.1 (by omega) done2.length i
              have HSF : Hid ((done2 ++ [q]).foldl (upd dm) f = upd dm fj q) := Lib.hid (by rw [List.foldl_append, hfj]; rfl)
              have hcap := HOK.out.capi k1
              have hlo := HFL.out.1.lo q.1 k1
              have hne1 := hnear q.1
              obtain ⟨c0, c2, cz⟩ := HARF.out fj wr HDi.out.1 q k1
              obtain ⟨_, d2, dz⟩ := HARF.out fj wr HDi.out.1 (flipS q) k1
              have henf : encN (flipS q) < M := by
                have h4 := encN_lt (f := f) (L := L) (p := flipS q) k1
                rw [arsL_len, HM.out] at h4
                exact h4
              have hxr := xor_enc q (by omega)
              have hneq : encN q ≠ encN (flipS q) := fun e => flip_ne q (encN_inj e).symm
              obtain ⟨z, hz⟩ : ∃ y, roomL L fj q = y := ⟨_, rfl⟩
              obtain ⟨z', hz'⟩ : ∃ y, roomL L fj (flipS q) = y := ⟨_, rfl⟩
              have hbd : -3000000000 ≤ z ∧ z ≤ 3000000000 ∧ -3000000000 ≤ z' ∧ z' ≤ 3000000000 := by
                have e1 : z = capL L q.1 - fj q.1 ∨ z = fj q.1 := by
                  rw [← hz]
                  unfold roomL roomS
                  split
                  · exact .inl rfl
                  · exact .inr rfl
                have e2 : z' = capL L q.1 - fj q.1 ∨ z' = fj q.1 := by
                  rw [← hz']
                  unfold roomL roomS flipS
                  dsimp only
                  split
                  · exact .inl rfl
                  · exact .inr rfl
                rcases e1 with e1 | e1 <;> rcases e2 with e2 | e2 <;> omega
              have HUP : Hid (arsL L (upd dm fj q) = ((arsL L fj).set (encN q) ((stF L q : Int), (stT L q : Int), z - dm)).set (encN (flipS q)) ((stF L (flipS q) : Int), (stT L (flipS q) : Int), z' + dm)) := Lib.hid (by rw [arsL_upd k1, hz, hz'])
              have HAT : Hid ((arsL L fj)[encN q]? = some ((stF L q : Int), (stT L q : Int), z) ∧ (arsL L fj)[encN (flipS q)]? = some ((stF L (flipS q) : Int), (stT L (flipS q) : Int), z')) := Lib.hid ⟨by rw [arsL_at fj k1, hz], by rw [arsL_at fj (p := flipS q) k1, hz']⟩
              rw [hz] at c2
              rw [hz'] at d2
              obtain ⟨e, he⟩ : ∃ y, encN q = y := ⟨_, rfl⟩
              obtain ⟨e', he'⟩ : ∃ y, encN (flipS q) = y := ⟨_, rfl⟩
              obtain ⟨nx, hnx⟩ : ∃ y, stF L q = y := ⟨_, rfl⟩
              rw [he] at k2 k3 c0 c2 cz hxr hneq HUP HAT
              rw [he'] at d2 dz henf hxr hneq HUP HAT
              rw [hnx] at c0 k4 hbk2
              obtain ⟨r5, -⟩ := (HBYr.out.frm HDi.out.2 HBYr.out.1 (by omega)).at_ x2 _ (thL_at _ hxN)
              rw [k3] at r5
              have x20 : (0 : Int) ≤ (x2 : Int) := by omega
              have x21 : (x2 : Int) < (N : Int) := by omega
              have e0i : (0 : Int) ≤ (e : Int) := by omega
              have e1i : (e : Int) < (M : Int) := by omega
              have f0i : (0 : Int) ≤ (e' : Int) := by omega
              have f1i : (e' : Int) < (M : Int) := by omega
              have hxn : ((x2 : Int) == (x : Int)) = false := beq_eq_false_iff_ne.2 (by omega)
              have hxn2 : (x2 == x) = false := beq_eq_false_iff_ne.2 hx2
              have hw7 : IntKind.i64.wrap (z - dm) = z - dm := IntWalk.i64_in _ (by omega)
              have hw8 : IntKind.i64.wrap (z' + dm) = z' + dm := IntWalk.i64_in _ (by omega)
              have HQ := Lib.hid hq
              have HNX := Lib.hid hnx
              have HK := Lib.hid (And.intro hbk2 k4)
              clear hbk hq hbk2 k3 k4 hfj hnear hz hz' he he' hnx
              go_upto_region 15 with (fail)
              refine (wpIn_wide (n := 9)).1 ?_
              refine wpIn_region_plan (Plan.ons [0, 1, 2, 3, 4, 5, 6, 7, 8, 9, 10, 11, 12, 13, 14, 15, 16, 17] .fin) [] (fun _ => True) [] rfl (by kernel_rfl) (by kernel_rfl) (fun _ d _ _ _ h => by cases d <;> exact h) trivial ?_
              (refine ordQ_li rfl rfl rfl (fun K hK => ?_); go_simp; refine hK _ ?_; clear hK K)
              (refine ordQ_li rfl rfl rfl (fun K hK => ?_); go_simp; refine hK _ ?_; clear hK K)
              (refine ordQ_li rfl rfl rfl (fun K hK => ?_); go_simp; refine hK _ ?_; clear hK K)
              (refine ordQ_li rfl rfl rfl (fun K hK => ?_); go_simp; refine hK _ ?_; clear hK K)
              (refine ordQ_li rfl rfl rfl (fun K hK => ?_); go_simp; refine hK _ ?_; clear hK K)
              (refine ordQ_li rfl rfl rfl (fun K hK => ?_); go_simp; refine hK _ ?_; clear hK K)
              (refine ordQ_li rfl rfl rfl (fun K hK => ?_); go_simp; refine hK _ ?_; clear hK K)
              (refine ordQ_li rfl rfl rfl (fun K hK => ?_); go_simp; refine hK _ ?_; clear hK K)
              (refine ordQ_li rfl rfl rfl (fun K hK => ?_); go_simp; refine hK _ ?_; clear hK K)
              (refine ordQ_li rfl rfl rfl (fun K hK => ?_); go_simp; refine hK _ ?_; clear hK K)
              (refine ordQ_li rfl rfl rfl (fun K hK => ?_); go_simp; refine hK _ ?_; clear hK K)
              (refine ordQ_li rfl rfl rfl (fun K hK => ?_); go_simp; refine hK _ ?_; clear hK K)
              (refine ordQ_li rfl rfl rfl (fun K hK => ?_); go_simp; refine hK _ ?_; clear hK K)
              (refine ordQ_li rfl rfl rfl (fun K hK => ?_); go_simp; refine hK _ ?_; clear hK K)
              (refine ordQ_li rfl rfl rfl (fun K hK => ?_); go_simp; refine hK _ ?_; clear hK K)
              (refine ordQ_li rfl rfl rfl (fun K hK => ?_); go_simp; refine hK _ ?_; clear hK K)
              (refine ordQ_li rfl rfl rfl (fun K hK => ?_); go_simp; refine hK _ ?_; clear hK K)
              (refine ordQ_hv rfl rfl rfl (fun K hK => ?_); gi_wp2; refine hK _ _ (fun _ => trivial) ?_; clear hK K)
              refine ordQ_fin ?_
              obtain ⟨w8, hw8e⟩ : ∃ y, (wr.setCell ⟨ga, e * 3 + 2, none⟩ (I (z - dm))).drew = y := ⟨_, rfl⟩
              have HD8 : Hid (DN N (osL L) ((arsL L fj).set e ((stF L q : Int), (stT L q : Int), z - dm)) (.slice (some ⟨ga, 0, none⟩) M ca) ob rv w8) := Lib.hid (by
                have hlt : e < (arsL L fj).length := by rw [arsL_len, HM.out]; exact k2
                have h := HDi.out.1.setLeft (by rw [arsL_len]; exact HM.out) e hlt (z - dm)
                have hat := HAT.out.1
                rw [List.getElem?_eq_getElem hlt] at hat
                injection hat with hat
                rw [hat] at h
                rw [← hw8e]
                exact h.below (Below.refl _ _).drew)
              have HF8 : Hid (Frm we.heap.size (fun y => y = ga) we w8) := Lib.hid (by rw [← hw8e]; exact ((HDi.out.2.setCell (p := ⟨ga, e * 3 + 2, none⟩) (.inr rfl) _).drew))
              have c0' : w8.cell? ⟨ga, e * 3, none⟩ = some (I (nx : Nat)) := by rw [← hw8e]; exact (World.cell?_setCell_other _ _ _ _ (fun h => by first | (simp at h; done) | (simp at h; omega))).trans c0
              have d2' : w8.cell? ⟨ga, e' * 3 + 2, none⟩ = some (I z') := by rw [← hw8e]; exact (World.cell?_setCell_other _ _ _ _ (fun h => by first | (simp at h; done) | (simp at h; omega))).trans d2
              have dz' : w8.frozen? ⟨ga, e' * 3 + 2, none⟩ = false := by rw [← hw8e]; exact (World.frozen?_setCell _ _ _ _).trans dz
              obtain ⟨r6, -⟩ := (HBYr.out.frm HF8.out HBYr.out.1 (by omega)).at_ x2 _ (thL_at _ hxN)
              have hr56 : byD L x ys x2 = ((e : Nat) : Int) := by
                obtain ⟨r7, -⟩ := (HBYr.out.frm HDi.out.2 HBYr.out.1 (by omega)).at_ x2 _ (thL_at _ hxN)
                rw [r5] at r7
                injection r7 with r7
                injection r7 with _ r7
                exact r7.symm
              rw [hr56] at r6
              rw [hw8e]
              clear hw8e r5 c0 c2 cz d2 dz HDi hr56
              go_upto_region 16 with (fail)
              refine (wpIn_wide (n := 9)).1 ?_
              refine wpIn_region_plan (Plan.ons [0, 1, 2, 3, 4, 5, 6, 7, 8, 9, 10, 11, 12, 13, 14, 15, 16, 17, 18, 19] .fin) [] (fun _ => True) [] rfl (by kernel_rfl) (by kernel_rfl) (fun _ d _ _ _ h => by cases d <;> exact h) trivial ?_
              (refine ordQ_li rfl rfl rfl (fun K hK => ?_); go_simp; refine hK _ ?_; clear hK K)
              (refine ordQ_li rfl rfl rfl (fun K hK => ?_); go_simp; refine hK _ ?_; clear hK K)
              (refine ordQ_li rfl rfl rfl (fun K hK => ?_); go_simp; refine hK _ ?_; clear hK K)
              (refine ordQ_li rfl rfl rfl (fun K hK => ?_); go_simp; refine hK _ ?_; clear hK K)
              (refine ordQ_li rfl rfl rfl (fun K hK => ?_); go_simp; refine hK _ ?_; clear hK K)
              (refine ordQ_li rfl rfl rfl (fun K hK => ?_); go_simp; refine hK _ ?_; clear hK K)
              (refine ordQ_li rfl rfl rfl (fun K hK => ?_); go_simp; refine hK _ ?_; clear hK K)
              (refine ordQ_li rfl rfl rfl (fun K hK => ?_); go_simp; refine hK _ ?_; clear hK K)
              (refine ordQ_li rfl rfl rfl (fun K hK => ?_); go_simp; refine hK _ ?_; clear hK K)
              (refine ordQ_li rfl rfl rfl (fun K hK => ?_); go_simp; refine hK _ ?_; clear hK K)
              (refine ordQ_li rfl rfl rfl (fun K hK => ?_); go_simp; refine hK _ ?_; clear hK K)
              (refine ordQ_li rfl rfl rfl (fun K hK => ?_); go_simp; refine hK _ ?_; clear hK K)
              (refine ordQ_li rfl rfl rfl (fun K hK => ?_); go_simp; refine hK _ ?_; clear hK K)
              (refine ordQ_li rfl rfl rfl (fun K hK => ?_); go_simp; refine hK _ ?_; clear hK K)
              (refine ordQ_li rfl rfl rfl (fun K hK => ?_); go_simp; refine hK _ ?_; clear hK K)
              (refine ordQ_li rfl rfl rfl (fun K hK => ?_); go_simp; refine hK _ ?_; clear hK K)
              (refine ordQ_li rfl rfl rfl (fun K hK => ?_); go_simp; refine hK _ ?_; clear hK K)
              (refine ordQ_li rfl rfl rfl (fun K hK => ?_); go_simp; refine hK _ ?_; clear hK K)
              (refine ordQ_li rfl rfl rfl (fun K hK => ?_); go_simp; refine hK _ ?_; clear hK K)
              (refine ordQ_hv rfl rfl rfl (fun K hK => ?_); gi_wp2; refine hK _ _ (fun _ => trivial) ?_; clear hK K)
              refine ordQ_fin ?_
              obtain ⟨w9, hw9e⟩ : ∃ y, (w8.setCell ⟨ga, e' * 3 + 2, none⟩ (I (z' + dm))).drew = y := ⟨_, rfl⟩
              have HD9 : Hid (DN N (osL L) (arsL L (upd dm fj q)) (.slice (some ⟨ga, 0, none⟩) M ca) ob rv w9) := Lib.hid (by
                have hlt : e' < ((arsL L fj).set e ((stF L q : Int), (stT L q : Int), z - dm)).length := by rw [List.length_set, arsL_len, HM.out]; exact henf
                have h := HD8.out.setLeft (by rw [List.length_set, arsL_len]; exact HM.out) e' hlt (z' + dm)
                have hat := HAT.out.2
                have hat2 : ((arsL L fj).set e ((stF L q : Int), (stT L q : Int), z - dm))[e']? = some ((stF L (flipS q) : Int), (stT L (flipS q) : Int), z') := by
                  rw [List.getElem?_set, if_neg hneq]
                  exact hat
                rw [List.getElem?_eq_getElem hlt] at hat2
                injection hat2 with hat2
                rw [hat2] at h
                rw [← hw9e, HUP.out]
                exact h.below (Below.refl _ _).drew)
              have HF9 : Hid (Frm we.heap.size (fun y => y = ga) we w9) := Lib.hid (by rw [← hw9e]; exact ((HF8.out.setCell (p := ⟨ga, e' * 3 + 2, none⟩) (.inr rfl) _).drew))
              have c09 : w9.cell? ⟨ga, e * 3, none⟩ = some (I (nx : Nat)) := by rw [← hw9e]; exact (World.cell?_setCell_other _ _ _ _ (fun h => by first | (simp at h; done) | (simp at h; omega))).trans c0'
              obtain ⟨r9, -⟩ := (HBYr.out.frm HF9.out HBYr.out.1 (by omega)).at_ x2 _ (thL_at _ hxN)
              have hr9 : byD L x ys x2 = ((e : Nat) : Int) := by
                obtain ⟨r7, -⟩ := (HBYr.out.frm HF8.out HBYr.out.1 (by omega)).at_ x2 _ (thL_at _ hxN)
                rw [r6] at r7
                injection r7 with r7
                injection r7 with _ r7
                exact r7.symm
              rw [hr9] at r9
              rw [hw9e]
              have HDF : Hid (gk - 1 = rest'.length ∧ l = (done2 ++ [q]) ++ rest' ∧ Back (frL L) (toL L) (byOf (stT L) ys) x nx rest' ∧ nx ∈ ordL L x ys) := Lib.hid ⟨by have := HDO.out.1; simp at this; omega, by rw [List.append_assoc]; exact HDO.out.2.1, HK.out.1, HK.out.2⟩
              have hgk : gk - 1 < gk := by have := HDO.out.1; simp at this; omega
              have HDZ : Hid (DN N (osL L) (arsL L ((done2 ++ [q]).foldl (upd dm) f)) (.slice (some ⟨ga, 0, none⟩) M ca) ob rv w9 ∧ Frm we.heap.size (fun y => y = ga) we w9) := Lib.hid ⟨by rw [HSF.out]; exact HD9.out, HF9.out⟩
              clear hw9e r6 c0' d2' dz' HD8 HF8 hr9 HDO HD9 HF9
              go_wp2_with (fail)
              go_roundg (gk - 1)
              case measure => exact hgk
              case rel => exact ⟨nx, done2 ++ [q], rest', rfl, HDF, HDZ⟩
        | cons q rest' =>
          have hbk := HDO.out.2.2.1
          obtain ⟨hq, hx2, hbk2⟩ : q = byOf (stT L) ys x ∧ x ≠ s ∧ Back (frL L) (toL L) (byOf (stT L) ys) s (stF L q) rest' := by
            cases hbk with
            | cons h1 h2 => exact ⟨rfl, h1, h2⟩
          obtain ⟨k1, k2, k3, k4⟩ := HRD.out x HDO.out.2.2.2 hx2
          rw [← hq] at k1 k2 k3 k4
          have hxN := HON.out x HDO.out.2.2.2
          obtain ⟨c0, c2, -⟩ := HARF.out f wr (HD5.out.below HBi.out) q k1
          obtain ⟨z, hz⟩ : ∃ y, roomL L f q = y := ⟨_, rfl⟩
          obtain ⟨e, he⟩ : ∃ y, encN q = y := ⟨_, rfl⟩
          obtain ⟨nx, hnx⟩ : ∃ y, stF L q = y := ⟨_, rfl⟩
          rw [hz] at c2
          rw [he] at k2 k3 c0 c2
          rw [hnx] at c0 k4 hbk2
          obtain ⟨r5, -⟩ := (HBY.out.call HBi.out).at_ x _ (thL_at _ hxN)
          rw [k3] at r5
          have HDF : Hid (gk - 1 = rest'.length ∧ l = (done ++ [q]) ++ rest' ∧ Back (frL L) (toL L) (byOf (stT L) ys) s nx rest' ∧ nx ∈ ordL L s ys) := Lib.hid ⟨by have := HDO.out.1; simp at this; omega, by rw [List.append_assoc]; exact HDO.out.2.1, hbk2, k4⟩
          have hgk : gk - 1 < gk := by have := HDO.out.1; simp at this; omega
          have HMN : Hid (minR (roomL L f) (done ++ [q]) 1073741824 = min dm z) := Lib.hid (by rw [minR_snoc, HDM.out, hz])
          have x20 : (0 : Int) ≤ (x : Int) := by omega
          have x21 : (x : Int) < (N : Int) := by omega
          have e0i : (0 : Int) ≤ (e : Int) := by omega
          have e1i : (e : Int) < (M : Int) := by omega
          have hxn : ((x : Int) == (s : Int)) = false := beq_eq_false_iff_ne.2 (by omega)
          have hxn2 : (x == s) = false := beq_eq_false_iff_ne.2 hx2
          clear hbk hq hbk2 k3 k4 hz he hnx HDO HDM
          go_wp2_with (fail)
          go_roundg (gk - 1)
          case measure => exact hgk
          case rel => exact ⟨nx, done ++ [q], rest', rfl, by rw [HMN.out], HDF, HBi⟩
    · have hbt := byD_no hin
      rw [hbt] at bt
      have HMF : Hid (MostIs v p m val (reachL L f s N)) := Lib.hid (by
        rw [HFL.out.2]
        refine HMI.out f (by rw [HST.out]; exact HFL.out.1) ?_
        rw [HYS.out, HST.out]
        exact hin)
      obtain ⟨y0, -⟩ := HX5.out.2.at_ 0 _ rfl
      obtain ⟨y1, -⟩ := HX5.out.2.at_ 1 _ rfl
      obtain ⟨u0, z0⟩ := HX5.out.1.at_ 0 _ rfl
      obtain ⟨u1, z1⟩ := HX5.out.1.at_ 1 _ rfl
      have hbw := (HX5.out.1.set 0 (.slice (some ⟨ga, 0, none⟩) M ca)).set 1 (.slice (some ⟨ob, 0, none⟩) N N)
      have hFE : Frm w5.heap.size (fun x => x = w.heap.size + 1) w5 ((w5.setCell ⟨w.heap.size + 1, 0, none⟩ (.slice (some ⟨ga, 0, none⟩) M ca)).setCell ⟨w.heap.size + 1, 1, none⟩ (.slice (some ⟨ob, 0, none⟩) N N)) := ((Frm.refl _ (fun x => x = w.heap.size + 1) _).setCell (.inr rfl) _).setCell (.inr rfl) _
      have HDE := Lib.hid (HD5.out.frm hFE (fun g hg hs => by have := (HBK.out g hg).1; omega))
      have HBE := Lib.hid (HBW5.out.trans (hFE.below HBW5.out.size (fun k hk hs => by omega)))
      obtain ⟨a0, -⟩ := hbw.at_ 0 _ rfl
      obtain ⟨a1, -⟩ := hbw.at_ 1 _ rfl
      clear hbt hin hbw hFE
      go_wp2_with (fail)
      obtain ⟨wz, hwz⟩ : ∃ y, (w5.setCell ⟨w.heap.size + 1, 0, none⟩ (.slice (some ⟨ga, 0, none⟩) M ca)).setCell ⟨w.heap.size + 1, 1, none⟩ (.slice (some ⟨ob, 0, none⟩) N N) = y := ⟨_, rfl⟩
      rw [hwz] at a0 a1 HDE HBE ⊢
      clear hwz y0 y1 u0 z0 u1 z1
      refine bodyPost_ret (v := .tuple #[netV N (.slice (some ⟨ga, 0, none⟩) M ca) ob, I (s : Nat), I val]) ?_ rfl ?_
      · simp [results, Tryd.results42, go_sem, a0, a1]
      · exact ⟨_, ob, rv, f, val, rfl, HDE.out, by rw [HST.out]; exact HFL.out.1, HMF.out, HBE.out⟩
end Go.Proofs.YtomfnldlnoiloaaDoor

/- The document's Most (17) and Soonest (27). Printed by mkE9.py. -/
namespace Go.Proofs.YtomfnldlnoiloaaDoor
set_option linter.unusedVariables false
set_option linter.unusedSimpArgs false
open Go Go.RowKit Go.Maps

theorem full42s (v : Vis) (hv : VisOk v) (A1 A2 A3 : Option Addr) (q1 q2 q3 p m : Nat) (hp : p < v.n) (hm : m ≤ 60) (w : World) (hI : VisAt w w.heap.size v A1 A2 A3) :
    Calls Tryd.prog 42 #[visV v A1 A2 A3 q1 q2 q3, I p, I m] w fun e w' => ∃ A M c ob rv f val, e = .returned (.tuple #[netV (snkN v m + 1) (.slice A M c) ob, I (srcN v m : Nat), I val]) ∧ DN (snkN v m + 1) (osL (netD v p m)) (arsL (netD v p m) f) (.slice A M c) ob rv w' ∧
      FlowL (netD v p m) (snkN v m + 1) (srcN v m) (snkN v m) f ∧ MostIs v p m val (reachL (netD v p m) f (srcN v m) (snkN v m + 1)) ∧ Below w.heap.size w w' := by
  refine (full42 v hv A1 A2 A3 q1 q2 q3 p m hp hm w hI).mono ?_
  rintro e w' ⟨av, ob, rv, f, val, h1, h2, h3, h4, h5⟩
  obtain ⟨A, c, rfl, _⟩ := h2.arc
  exact ⟨A, _, c, ob, rv, f, val, h1, h2, h3, h4, h5⟩
set_option maxRecDepth 100000 in
set_option maxHeartbeats 4000000 in
theorem most17 (v : Vis) (h64 : Vis64 v) (A1 A2 A3 : Option Addr) (q1 q2 q3 : Nat) (p m : Int) (w : World) (hI : VisAt w w.heap.size v A1 A2 A3) :
    Calls Tryd.prog 17 #[visV v A1 A2 A3 q1 q2 q3, I p, I m] w fun e w' => ∃ val : Int, e = .returned (.tuple #[I val, I (errN v p m)]) ∧ MostAns v p m val ∧ Below w.heap.size w w' := by
  obtain ⟨w2, hw2⟩ : ∃ w2, w.alloc (.cells #[.slice A1 v.rm.length q1, .slice A2 v.tr.length q2, .slice A3 v.ar.length q3] 26) = w2 := ⟨_, rfl⟩
  have hB2 : Below w.heap.size w w2 := by rw [← hw2]; (repeat' (first | assumption | exact Below.refl _ _ | refine Below.drew ?_ | refine below_drewN ?_ _ | refine Below.setCell ?_ (by first | omega | (simp; done) | (simp; omega)) _ | refine Below.alloc ?_ (by first | omega | (simp; done) | (simp; omega)) _ | refine Below.trans ?_ (Below.mono (by assumption) (by first | omega | (simp; done) | (simp; omega)))))
  have b1 : Box w2 w.heap.size [.slice A1 v.rm.length q1, .slice A2 v.tr.length q2, .slice A3 v.ar.length q3] := by rw [← hw2]; exact Box.new w [.slice A1 v.rm.length q1, .slice A2 v.tr.length q2, .slice A3 v.ar.length q3] 26
  have hI2 := (hI.below hB2).more hB2.size
  have HBX : Hid (∀ W, Below w2.heap.size w2 W → (W.cell? ⟨w.heap.size, 0, none⟩ = some (.slice A1 v.rm.length q1) ∧ W.cell? ⟨w.heap.size, 1, none⟩ = some (.slice A2 v.tr.length q2) ∧ W.cell? ⟨w.heap.size, 2, none⟩ = some (.slice A3 v.ar.length q3)) ∧ Below w.heap.size w W) := Lib.hid fun W h =>
    ⟨⟨((b1.call h).at_ 0 _ rfl).1, ((b1.call h).at_ 1 _ rfl).1, ((b1.call h).at_ 2 _ rfl).1⟩, hB2.trans (h.mono hB2.size)⟩
  obtain ⟨⟨x0, x1, x2⟩, -⟩ := HBX.out w2 (Below.refl _ _)
  have HI2 : Hid (∀ W, Below w2.heap.size w2 W → VisAt W W.heap.size v A1 A2 A3) := Lib.hid fun W h => (hI2.below h).more h.size
  have H21 : Hid (∀ W, Below w2.heap.size w2 W → Calls Tryd.prog 21 #[visV v A1 A2 A3 q1 q2 q3, I p, I m] W fun e w' => e = .returned (I (errN v p m)) ∧ Below W.heap.size W w') := Lib.hid fun W h => errors21 v h64 A1 A2 A3 q1 q2 q3 p m W (HI2.out W h)
  clear b1 hB2 hI hI2 h64
  by_cases he : errN v p m = 0
  · obtain ⟨hv, hp, hm⟩ := err_zero he
    rw [he] at H21
    obtain ⟨pn, rfl⟩ : ∃ n : Nat, p = n := ⟨p.toNat, (Int.toNat_of_nonneg hp.1).symm⟩
    obtain ⟨mn, rfl⟩ : ∃ n : Nat, m = n := ⟨m.toNat, (Int.toNat_of_nonneg hm.1).symm⟩
    have hpn : pn < v.n := by have := hv.n; omega
    have hmn : mn ≤ 60 := by omega
    have H42 : Hid (∀ W, Below w2.heap.size w2 W → Calls Tryd.prog 42 #[visV v A1 A2 A3 q1 q2 q3, I pn, I mn] W fun e w' => ∃ A M c ob sr val, e = .returned (.tuple #[.agg #[.slice A M c, .slice (some ⟨ob, 0, none⟩) (snkN v mn + 1) (snkN v mn + 1)], I sr, I val]) ∧ (∃ R, MostIs v pn mn val R) ∧ Below W.heap.size W w') := Lib.hid fun W h => by
      refine (full42s v hv A1 A2 A3 q1 q2 q3 pn mn hpn hmn W (HI2.out W h)).mono ?_
      rintro e w' ⟨A, M, c, ob, rv, f, val, h1, _, _, h4, h5⟩
      exact ⟨A, M, c, ob, _, val, h1, ⟨_, h4⟩, h5⟩
    have HE := Lib.hid he
    clear hp hm he hv
    go_enter Tryd.func17, Tryd.ntmps17
    go_wp2_with (first
      | (go_at_call 21; refine (H21.out _ (Below.refl _ _)).mono ?_; rintro e w3 ⟨rfl, hb3⟩; obtain ⟨⟨y0, y1, y2⟩, hB3⟩ := HBX.out w3 hb3)
      | (go_at_call 42; refine (H42.out _ hb3).mono ?_; rintro e w4 ⟨A, M, c, ob, sr, val, rfl, hM, hb4⟩; have hB4 := hB3.trans (hb4.mono hB3.size))
      | fail)
    refine bodyPost_ret (v := .tuple #[I val, I 0]) (by simp [results, Tryd.results17, go_sem]) rfl ⟨val, by rw [HE.out], ⟨fun _ => hM, fun h => absurd HE.out h⟩, ?_⟩
    first | exact hB4 | exact hB4.alloc hB4.size _
  · have HE : Hid (MostAns v p m 0) := Lib.hid ⟨fun h => absurd h he, fun _ => rfl⟩
    obtain ⟨e0, he0⟩ : ∃ z, errN v p m = z := ⟨_, rfl⟩
    rw [he0] at H21 he ⊢
    clear he0
    have heb : (e0 == 0) = false := by simpa using he
    go_enter Tryd.func17, Tryd.ntmps17
    go_wp2_with (first
      | (go_at_call 21; refine (H21.out _ (Below.refl _ _)).mono ?_; rintro e w3 ⟨rfl, hb3⟩; have hB3 := (HBX.out w3 hb3).2)
      | fail)
    refine bodyPost_ret (v := .tuple #[I 0, I e0]) (by simp [results, Tryd.results17, go_sem]) rfl ⟨0, rfl, HE.out, hB3⟩
set_option maxRecDepth 100000 in
set_option maxHeartbeats 4000000 in
theorem soonest27 (v : Vis) (h64 : Vis64 v) (A1 A2 A3 : Option Addr) (q1 q2 q3 : Nat) (p q : Int) (w : World) (hI : VisAt w w.heap.size v A1 A2 A3) :
    Calls Tryd.prog 27 #[visV v A1 A2 A3 q1 q2 q3, I p, I q] w fun e w' => ∃ t : Int, e = .returned (.tuple #[I t, I (soonE v p q)]) ∧ SoonAns v p q t ∧ Below w.heap.size w w' := by
  obtain ⟨w2, hw2⟩ : ∃ w2, w.alloc (.cells #[.slice A1 v.rm.length q1, .slice A2 v.tr.length q2, .slice A3 v.ar.length q3] 26) = w2 := ⟨_, rfl⟩
  have hB2 : Below w.heap.size w w2 := by rw [← hw2]; (repeat' (first | assumption | exact Below.refl _ _ | refine Below.drew ?_ | refine below_drewN ?_ _ | refine Below.setCell ?_ (by first | omega | (simp; done) | (simp; omega)) _ | refine Below.alloc ?_ (by first | omega | (simp; done) | (simp; omega)) _ | refine Below.trans ?_ (Below.mono (by assumption) (by first | omega | (simp; done) | (simp; omega)))))
  have b1 : Box w2 w.heap.size [.slice A1 v.rm.length q1, .slice A2 v.tr.length q2, .slice A3 v.ar.length q3] := by rw [← hw2]; exact Box.new w [.slice A1 v.rm.length q1, .slice A2 v.tr.length q2, .slice A3 v.ar.length q3] 26
  have hI2 := (hI.below hB2).more hB2.size
  have HBX : Hid (∀ W, Below w2.heap.size w2 W → (W.cell? ⟨w.heap.size, 0, none⟩ = some (.slice A1 v.rm.length q1) ∧ W.cell? ⟨w.heap.size, 1, none⟩ = some (.slice A2 v.tr.length q2) ∧ W.cell? ⟨w.heap.size, 2, none⟩ = some (.slice A3 v.ar.length q3)) ∧ Below w.heap.size w W) := Lib.hid fun W h =>
    ⟨⟨((b1.call h).at_ 0 _ rfl).1, ((b1.call h).at_ 1 _ rfl).1, ((b1.call h).at_ 2 _ rfl).1⟩, hB2.trans (h.mono hB2.size)⟩
  obtain ⟨⟨x0, x1, x2⟩, -⟩ := HBX.out w2 (Below.refl _ _)
  have HI2 : Hid (∀ W, Below w2.heap.size w2 W → VisAt W W.heap.size v A1 A2 A3) := Lib.hid fun W h => (hI2.below h).more h.size
  have H21 : Hid (∀ W, Below w2.heap.size w2 W → Calls Tryd.prog 21 #[visV v A1 A2 A3 q1 q2 q3, I p, I 0] W fun e w' => e = .returned (I (errN v p 0)) ∧ Below W.heap.size W w') := Lib.hid fun W h => errors21 v h64 A1 A2 A3 q1 q2 q3 p 0 W (HI2.out W h)
  clear b1 hB2 hI hI2
  by_cases he : errN v p 0 = 0
  · obtain ⟨hv, hp, _⟩ := err_zero he
    rw [he] at H21
    obtain ⟨pn, rfl⟩ : ∃ n : Nat, p = n := ⟨p.toNat, (Int.toNat_of_nonneg hp.1).symm⟩
    have hpn : pn < v.n := by have := hv.n; omega
    obtain ⟨s1, hs1⟩ : ∃ s, inB q 1 1000 = s := ⟨_, rfl⟩
    have H39 : Hid (∀ W, Calls Tryd.prog 39 #[I q, I 1, I 1000] W fun e w' => e = .returned (.bool s1) ∧ W = w') := Lib.hid fun W => by rw [← hs1]; exact in39 _ _ _ _
    cases s1
    · have HS : Hid (soonE v pn q = 2) := Lib.hid (by unfold soonE; rw [he, hs1]; rfl)
      have HA : Hid (SoonAns v pn q 0) := Lib.hid ⟨fun h => (by rw [HS.out] at h; cases h), fun _ => rfl⟩
      clear hp he hv hs1 h64
      go_enter Tryd.func27, Tryd.ntmps27
      go_wp2_with (first
        | (go_at_call 21; refine (H21.out _ (Below.refl _ _)).mono ?_; rintro e w3 ⟨rfl, hb3⟩; have hB3 := (HBX.out w3 hb3).2)
        | (go_at_call 39; refine (H39.out _).mono ?_; rintro e w4 ⟨rfl, rfl⟩)
        | fail)
      refine bodyPost_ret (v := .tuple #[I 0, I 2]) (by simp [results, Tryd.results27, go_sem]) rfl ⟨0, by rw [HS.out], HA.out, hB3⟩
    · have HS : Hid (soonE v pn q = 0) := Lib.hid (by unfold soonE; rw [he, hs1]; rfl)
      have HU60 : ∀ u : Nat, u ≤ 60 → errN v pn u = 0 := fun u hu => by
        have h := he
        unfold errN at h ⊢
        split at h
        · rename_i h1
          rw [if_pos h1]
          split at h
          · rename_i h2
            rw [Bool.and_eq_true] at h2
            rw [if_pos (by rw [Bool.and_eq_true]; exact ⟨h2.1, inB_true.2 (by omega)⟩)]
          · cases h
        · cases h
      have H17 : Hid (∀ W, Below w2.heap.size w2 W → ∀ mn : Nat, mn ≤ 60 → Calls Tryd.prog 17 #[visV v A1 A2 A3 q1 q2 q3, I pn, I mn] W fun e w' => ∃ val : Int, e = .returned (.tuple #[I val, I 0]) ∧ (∃ R, MostIs v pn mn val R) ∧ Below W.heap.size W w') := Lib.hid fun W h mn hmn => by
        refine (most17 v h64 A1 A2 A3 q1 q2 q3 pn mn W (HI2.out W h)).mono ?_
        rintro e w' ⟨val, h1, h2, h3⟩
        rw [HU60 mn hmn] at h1
        exact ⟨val, h1, h2.1 (HU60 mn hmn), h3⟩
      clear hp he hv hs1 h64 HU60
      go_enter Tryd.func27, Tryd.ntmps27
      go_wp2_with (first
        | (go_at_call 21; refine (H21.out _ (Below.refl _ _)).mono ?_; rintro e w3 ⟨rfl, hb3⟩; obtain ⟨⟨y0, y1, y2⟩, hB3⟩ := HBX.out w3 hb3)
        | (go_at_call 39; refine (H39.out _).mono ?_; rintro e w4 ⟨rfl, rfl⟩)
        | fail)
      have HB3 := Lib.hid hb3
      clear hb3 hB3
      go_loopw [9] (fun i wr => ∃ k : Nat, i = I k ∧ k ≤ 61 ∧ Hid (Below w2.heap.size w2 wr) ∧ Hid (∀ u, u < k → ∃ val R, MostIs v pn u val R ∧ val < q)) (fun i _ => 61 - (intOf i).toNat)
      case atStart => exact ⟨0, rfl, by omega, HB3, Lib.hid fun u h => by omega⟩
      case round =>
        obtain ⟨k, rfl, hk, HB, HU⟩ := hrel
        clear y0 y1 y2
        by_cases hlt : k < 61
        · have hwk : IntKind.i64.wrap ((k : Int) + 1) = (k : Int) + 1 := IntWalk.i64_in _ (by omega)
          have hk60 : (k : Int) ≤ 60 := by omega
          obtain ⟨⟨z0, z1, z2⟩, -⟩ := HBX.out wr HB.out
          have H17k := Lib.hid (H17.out wr HB.out k (by omega))
          go_wp2_with (first
            | (go_at_call 17; refine H17k.out.mono ?_; rintro e w4 ⟨val, rfl, hM, hb4⟩; have hB5 := HB.out.trans (hb4.mono HB.out.size); have hM' := Lib.hid hM; clear hM; by_cases hq : q ≤ val)
            | fail)
          · have HB5 := (HBX.out w4 hB5).2
            obtain ⟨R, hR⟩ := hM'.out
            refine bodyPost_ret (v := .tuple #[I k, I 0]) (by simp [results, Tryd.results27, go_sem]) rfl ⟨k, by rw [HS.out], ⟨fun _ => .inl ⟨k, by omega, rfl, HU.out, _, _, hR, by assumption⟩, fun h => absurd HS.out h⟩, HB5⟩
          · go_roundw
            case rel => exact ⟨k + 1, by go_num, by omega, Lib.hid hB5, Lib.hid fun u hu => by
              rcases Nat.lt_succ_iff_lt_or_eq.1 hu with h | rfl
              · exact HU.out u h
              · obtain ⟨R, hR⟩ := hM'.out
                exact ⟨_, _, hR, by omega⟩⟩
            case measure => simp [intOf]; omega
        · obtain rfl : k = 61 := by omega
          go_wp2_with (fail)
          refine bodyPost_ret (v := .tuple #[I (-1), I 0]) (by simp [results, Tryd.results27, go_sem]) rfl ⟨-1, by rw [HS.out], ⟨fun _ => .inr ⟨rfl, fun u hu => HU.out u (by omega)⟩, fun h => absurd HS.out h⟩, (HBX.out wr HB.out).2⟩
  · have HS : Hid (soonE v p q = errN v p 0) := Lib.hid (by unfold soonE; rw [if_neg he])
    have HA : Hid (SoonAns v p q 0) := Lib.hid ⟨fun h => (by rw [HS.out] at h; exact absurd h he), fun _ => rfl⟩
    obtain ⟨e0, he0⟩ : ∃ z, errN v p 0 = z := ⟨_, rfl⟩
    rw [he0] at H21 he HS
    clear he0
    have heb : (e0 == 0) = false := by simpa using he
    go_enter Tryd.func27, Tryd.ntmps27
    go_wp2_with (first
      | (go_at_call 21; refine (H21.out _ (Below.refl _ _)).mono ?_; rintro e w3 ⟨rfl, hb3⟩; have hB3 := (HBX.out w3 hb3).2)
      | fail)
    refine bodyPost_ret (v := .tuple #[I 0, I e0]) (by simp [results, Tryd.results27, go_sem]) rfl ⟨0, by rw [HS.out], HA.out, hB3⟩
end Go.Proofs.YtomfnldlnoiloaaDoor

/- The document's Wall (19). Printed by mkE9.py. -/
namespace Go.Proofs.YtomfnldlnoiloaaDoor
set_option linter.unusedVariables false
set_option linter.unusedSimpArgs false
open Go Go.RowKit Go.Maps

def stT1 (R : Nat → Bool) (n q t : Nat) : List (Int × Int) := (List.range t).flatMap fun t => if R (nd n q t) then [((q : Int), (t : Int))] else []
def stQ (R : Nat → Bool) (n m q : Nat) : List (Int × Int) := (List.range q).flatMap fun q => stT1 R n q (m + 1)
theorem stQ_all (v : Vis) (m : Nat) (R : Nat → Bool) : stQ R v.n m v.n = standsR v m R := rfl
theorem stQ_succ (R : Nat → Bool) (n m q : Nat) : stQ R n m (q + 1) = stQ R n m q ++ stT1 R n q (m + 1) := by
  unfold stQ
  rw [List.range_succ, List.flatMap_append]
  simp
theorem stT1_succ (R : Nat → Bool) (n q t : Nat) : stT1 R n q (t + 1) = stT1 R n q t ++ (if R (nd n q t) then [((q : Int), (t : Int))] else []) := by
  unfold stT1
  rw [List.range_succ, List.flatMap_append]
  simp
theorem stT1_len (R : Nat → Bool) (n q : Nat) : ∀ t, (stT1 R n q t).length ≤ t
  | 0 => Nat.le_refl _
  | t + 1 => by
    rw [stT1_succ, List.length_append]
    have := stT1_len R n q t
    split <;> simp <;> omega
theorem stQ_len (R : Nat → Bool) (n m : Nat) : ∀ q, (stQ R n m q).length ≤ q * (m + 1)
  | 0 => by simp [stQ]
  | q + 1 => by
    rw [stQ_succ, List.length_append, Nat.succ_mul]
    have := stQ_len R n m q
    have := stT1_len R n q (m + 1)
    omega
set_option maxRecDepth 100000 in
set_option maxHeartbeats 8000000 in
theorem wall19 (v : Vis) (h64 : Vis64 v) (A1 A2 A3 : Option Addr) (q1 q2 q3 : Nat) (p m : Int) (w : World) (hI : VisAt w w.heap.size v A1 A2 A3) :
    Calls Tryd.prog 19 #[visV v A1 A2 A3 q1 q2 q3, I p, I m] w fun e w' => ∃ (A : Option Addr) (c : Nat) (l : List (Int × Int)), e = .returned (.tuple #[.slice A l.length c, I (errN v p m)]) ∧ WallAns v p m l ∧ Twos w' w'.heap.size A l ∧ Below w.heap.size w w' := by
  obtain ⟨w2, hw2⟩ : ∃ w2, w.alloc (.cells #[.slice A1 v.rm.length q1, .slice A2 v.tr.length q2, .slice A3 v.ar.length q3] 26) = w2 := ⟨_, rfl⟩
  have hB2 : Below w.heap.size w w2 := by rw [← hw2]; (repeat' (first | assumption | exact Below.refl _ _ | refine Below.drew ?_ | refine below_drewN ?_ _ | refine Below.setCell ?_ (by first | omega | (simp; done) | (simp; omega)) _ | refine Below.alloc ?_ (by first | omega | (simp; done) | (simp; omega)) _ | refine Below.trans ?_ (Below.mono (by assumption) (by first | omega | (simp; done) | (simp; omega)))))
  have b1 : Box w2 w.heap.size [.slice A1 v.rm.length q1, .slice A2 v.tr.length q2, .slice A3 v.ar.length q3] := by rw [← hw2]; exact Box.new w [.slice A1 v.rm.length q1, .slice A2 v.tr.length q2, .slice A3 v.ar.length q3] 26
  have hI2 := (hI.below hB2).more hB2.size
  have HBX : Hid (∀ W, Below w2.heap.size w2 W → (W.cell? ⟨w.heap.size, 0, none⟩ = some (.slice A1 v.rm.length q1) ∧ W.cell? ⟨w.heap.size, 1, none⟩ = some (.slice A2 v.tr.length q2) ∧ W.cell? ⟨w.heap.size, 2, none⟩ = some (.slice A3 v.ar.length q3)) ∧ Below w.heap.size w W) := Lib.hid fun W h =>
    ⟨⟨((b1.call h).at_ 0 _ rfl).1, ((b1.call h).at_ 1 _ rfl).1, ((b1.call h).at_ 2 _ rfl).1⟩, hB2.trans (h.mono hB2.size)⟩
  obtain ⟨⟨x0, x1, x2⟩, -⟩ := HBX.out w2 (Below.refl _ _)
  have HI2 : Hid (∀ W, Below w2.heap.size w2 W → VisAt W W.heap.size v A1 A2 A3) := Lib.hid fun W h => (hI2.below h).more h.size
  have H21 : Hid (∀ W, Below w2.heap.size w2 W → Calls Tryd.prog 21 #[visV v A1 A2 A3 q1 q2 q3, I p, I m] W fun e w' => e = .returned (I (errN v p m)) ∧ Below W.heap.size W w') := Lib.hid fun W h => errors21 v h64 A1 A2 A3 q1 q2 q3 p m W (HI2.out W h)
  clear b1 hB2 hI hI2 h64
  by_cases he : errN v p m = 0
  · obtain ⟨hv, hp, hm⟩ := err_zero he
    rw [he] at H21
    obtain ⟨pn, rfl⟩ : ∃ n : Nat, p = n := ⟨p.toNat, (Int.toNat_of_nonneg hp.1).symm⟩
    obtain ⟨mn, rfl⟩ : ∃ n : Nat, m = n := ⟨m.toNat, (Int.toNat_of_nonneg hm.1).symm⟩
    have hpn : pn < v.n := by have := hv.n; omega
    have hmn : mn ≤ 60 := by omega
    have hn8 : v.rm.length ≤ 8 := hv.n.2
    have hs488 := srcN_le hv hmn
    have hLl := netD_len hv (p := pn) hmn
    have hok := netD_ok hv (p := pn) (m := mn) hpn
    have hndl : ∀ q t, q < v.rm.length → t ≤ mn → nd v.n q t < srcN v mn := fun q t h1 h2 => nd_lt h1 h2
    have HNDL := Lib.hid hndl
    have H42 : Hid (∀ W, Below w2.heap.size w2 W → Calls Tryd.prog 42 #[visV v A1 A2 A3 q1 q2 q3, I pn, I mn] W fun e w' => ∃ A M c ob rv f val, e = .returned (.tuple #[.agg #[.slice A M c, .slice (some ⟨ob, 0, none⟩) (snkN v mn + 1) (snkN v mn + 1)], I (srcN v mn : Nat), I val]) ∧ DN (snkN v mn + 1) (osL (netD v pn mn)) (arsL (netD v pn mn) f) (.slice A M c) ob rv w' ∧ FlowL (netD v pn mn) (snkN v mn + 1) (srcN v mn) (snkN v mn) f ∧ MostIs v pn mn val (reachL (netD v pn mn) f (srcN v mn) (snkN v mn + 1)) ∧ Below W.heap.size W w') := Lib.hid fun W h => full42s v hv A1 A2 A3 q1 q2 q3 pn mn hpn hmn W (HI2.out W h)
    have H48 : Hid (∀ (A : Option Addr) (M c ob : Nat) (rv : Nat → Value) (f : Nat → Int) W, DN (snkN v mn + 1) (osL (netD v pn mn)) (arsL (netD v pn mn) f) (.slice A M c) ob rv W → FlowL (netD v pn mn) (snkN v mn + 1) (srcN v mn) (snkN v mn) f → Calls Tryd.prog 48 #[.agg #[.slice A M c, .slice (some ⟨ob, 0, none⟩) (snkN v mn + 1) (snkN v mn + 1)], I (srcN v mn : Nat)] W fun e w' => ∃ B, e = .returned (.slice (some ⟨B, 0, none⟩) (snkN v mn + 1) (snkN v mn + 1)) ∧ Box w' B ((thL (snkN v mn + 1) (byD (netD v pn mn) (srcN v mn) (bfsL (netD v pn mn) f (srcN v mn) (snkN v mn + 1)))).map I) ∧ W.heap.size ≤ B ∧ Below W.heap.size W w') := Lib.hid fun A M c ob rv f W h1 h2 => by
      refine reached48 (netD v pn mn) f (snkN v mn + 1) (srcN v mn) (.slice A M c) ob rv W hok (by unfold snkN; rfl) (by unfold snkN; omega) (by omega) (fun p hp => ?_) h1
      have h3 := room_pos h2 hp
      have h4 := hok.capi hp
      omega
    have H49 : Hid (∀ W (q t : Nat), q ≤ 1000 → t ≤ 1000 → Calls Tryd.prog 49 #[visV v A1 A2 A3 q1 q2 q3, I q, I t] W fun e w' => e = .returned (I (nd v.n q t : Nat)) ∧ Below W.heap.size W w') := Lib.hid fun W q t h1 h2 => node49 v hn8 A1 A2 A3 q1 q2 q3 q t h1 h2 W
    have HE := Lib.hid he
    obtain ⟨NN, hNN⟩ : ∃ y, snkN v mn + 1 = y := ⟨_, rfl⟩
    have hsN : srcN v mn < NN := by rw [← hNN]; unfold snkN; omega
    have hNb : NN ≤ 490 := by rw [← hNN]; unfold snkN; omega
    rw [hNN] at H42 H48
    obtain ⟨i0, hi0, hi1, hi2, hi3⟩ := info_parts info46
    clear hp hm he hv hok hLl hndl
    go_enter Tryd.func19, Tryd.ntmps19
    go_wp2_with (first
      | (go_at_call 21; refine (H21.out _ (Below.refl _ _)).mono ?_; rintro e w3 ⟨rfl, hb3⟩; obtain ⟨⟨y0, y1, y2⟩, hB3⟩ := HBX.out w3 hb3)
      | (go_at_call 42; refine (H42.out _ hb3).mono ?_; rintro e w4 ⟨A, M, c, ob, rv, f, val, rfl, hD, hF, hM, hb4⟩; have hb24 := hb3.trans (hb4.mono hb3.size); have HFF := Lib.hid hF; have HMM := Lib.hid hM; have HDD := Lib.hid (hD.below (below1 w4 (.cells #[.slice A M c, .slice (some ⟨ob, 0, none⟩) NN NN] 82))); have hb25 := hb24.alloc hb24.size (.cells #[.slice A M c, .slice (some ⟨ob, 0, none⟩) NN NN] 82); clear hF hM hD)
      | (go_at_call 48; refine (H48.out A M c ob rv f _ HDD.out HFF.out).mono ?_; rintro e w5 ⟨B, rfl, hBx, hBz, hb5⟩; have HB5 := Lib.hid (hb25.trans (hb5.mono hb25.size)); have HBY := Lib.hid hBx; clear hBx hb5 hb25)
      | fail)
    obtain ⟨R, hR⟩ : ∃ R, reachL (netD v pn mn) f (srcN v mn) NN = R := ⟨_, rfl⟩
    have HMR : Hid (MostIs v pn mn val R) := Lib.hid (by rw [← hR]; exact HMM.out)
    have HRB : Hid (∀ x, R x = true ↔ byD (netD v pn mn) (srcN v mn) (bfsL (netD v pn mn) f (srcN v mn) NN) x ≠ -1) := Lib.hid fun x => by
      rw [← hR]
      unfold reachL
      rw [decide_eq_true_iff]
      constructor
      · exact byD_yes
      · intro h
        exact Classical.byContradiction fun h2 => h (byD_no h2)
    clear hR
    obtain ⟨by_, hby⟩ : ∃ y, byD (netD v pn mn) (srcN v mn) (bfsL (netD v pn mn) f (srcN v mn) NN) = y := ⟨_, rfl⟩
    rw [hby] at HRB HBY
    clear hby HFF HMM HDD hNN
    have hmi : IntKind.i64.wrap ((mn : Int) + 1) = (mn : Int) + 1 := IntWalk.i64_in _ (by omega)
    go_loopw [14, 13] (fun i r wr => ∃ q : Nat, i = I q ∧ q ≤ v.rm.length ∧ Hid (Below w5.heap.size w5 wr) ∧ Hid (wr.ownsRow w5.heap.size 46 2 r (stQ R v.n mn q).length (flat2 (stQ R v.n mn q)))) (fun i _ _ => v.rm.length - (intOf i).toNat)
    case atStart => exact ⟨0, rfl, by omega, Lib.hid (Below.refl _ _), Lib.hid (World.ownsRow_nil _ _ _ _)⟩
    case round =>
      obtain ⟨q, rfl, hq, HB1, HO1⟩ := hrel
      have HBW := Lib.hid (HB5.out.trans (HB1.out.mono HB5.out.size))
      obtain ⟨⟨x0, x1, x2⟩, -⟩ := HBX.out _ HBW.out
      by_cases hqn : q < v.rm.length
      · have qq1 : (q : Int) < (v.rm.length : Int) := by omega
        have hwq : IntKind.i64.wrap ((q : Int) + 1) = (q : Int) + 1 := IntWalk.i64_in _ (by omega)
        have hql := stQ_len R v.n mn q
        have hql2 : (stQ R v.n mn q).length ≤ 488 := by
          have : q * (mn + 1) ≤ 8 * 61 := Nat.mul_le_mul (by omega) (by omega)
          omega
        obtain ⟨SQ, hSQ⟩ : ∃ y, stQ R v.n mn q = y := ⟨_, rfl⟩
        have HSQ : Hid (stQ R v.n mn (q + 1) = SQ ++ stT1 R v.n q (mn + 1)) := Lib.hid (by rw [stQ_succ, hSQ])
        rw [hSQ] at HO1 hql2
        clear hSQ hql
        go_upto_if 43 with (fail)
        go_loopw [15, 13] (fun i r wr => ∃ (t : Nat) (st : List (Int × Int)), i = I t ∧ t ≤ mn + 1 ∧ Hid (st = SQ ++ stT1 R v.n q t) ∧ st.length ≤ 488 + t ∧ Hid (Below w5.heap.size w5 wr) ∧ Hid (wr.ownsRow w5.heap.size 46 2 r st.length (flat2 st))) (fun i _ _ => mn + 1 - (intOf i).toNat)
        case atStart => exact ⟨0, SQ, rfl, by omega, Lib.hid (by simp [stT1]), by omega, HB1, HO1⟩
        case round =>
          clear HB1 HO1 HBW x0 x1 x2
          obtain ⟨t, st, rfl, ht, HSt, hsl, HB1, HO1⟩ := hrel
          have HBW := Lib.hid (HB5.out.trans (HB1.out.mono HB5.out.size))
          obtain ⟨⟨x0, x1, x2⟩, -⟩ := HBX.out _ HBW.out
          by_cases htm : t < mn + 1
          · have htm2 : (t : Int) ≤ (mn : Int) := by omega
            have hwt : IntKind.i64.wrap ((t : Int) + 1) = (t : Int) + 1 := IntWalk.i64_in _ (by omega)
            have hnl := HNDL.out q t hqn (by omega)
            obtain ⟨nq, hnq⟩ : ∃ y, nd v.n q t = y := ⟨_, rfl⟩
            have HNQ := Lib.hid hnq
            rw [hnq] at hnl
            clear hnq
            have H49k : Hid (Calls Tryd.prog 49 #[visV v A1 A2 A3 q1 q2 q3, I q, I t] wr fun e w' => e = .returned (I (nq : Nat)) ∧ Below wr.heap.size wr w') := Lib.hid (by rw [← HNQ.out]; exact H49.out wr q t (by omega) (by omega))
            have n0 : (0 : Int) ≤ (nq : Int) := by omega
            have n1 : (nq : Int) < (NN : Int) := by omega
            have HRBq := Lib.hid (HRB.out nq)
            have HBYw : Hid (∀ W, Below w5.heap.size w5 W → W.cell? ⟨B, nq, none⟩ = some (I (by_ nq))) := Lib.hid fun W h => ((HBY.out.call h).at_ nq _ (thL_at _ (by omega))).1
            obtain ⟨bv, hbv⟩ : ∃ y, by_ nq = y := ⟨_, rfl⟩
            rw [hbv] at HRBq HBYw
            clear hbv
            by_cases hbm : bv = -1
            · subst hbm
              have hRf : R nq = false := by
                cases h : R nq with
                | false => rfl
                | true => exact absurd rfl (HRBq.out.1 h)
              have HSt2 : Hid (st = SQ ++ stT1 R v.n q (t + 1)) := Lib.hid (by rw [stT1_succ, HNQ.out, hRf]; simpa using HSt.out)
              clear hRf
              go_wp2_with (first
                | (go_at_call 49; refine H49k.out.mono ?_; rintro e w6 ⟨rfl, hb6⟩; have HB6 := Lib.hid (HB1.out.trans (hb6.mono HB1.out.size)); have hby := HBYw.out _ HB6.out; have HO6 := Lib.hid (grown_own HO1.out hb6); clear hb6)
                | fail)
              go_roundw
              case rel => exact ⟨t + 1, st, by go_num, by omega, HSt2, by omega, HB6, HO6⟩
              case measure => first | (simp [intOf]; done) | (simp [intOf]; omega)
            · have hRt : R nq = true := HRBq.out.2 hbm
              have hbb : (bv == -1) = false := beq_eq_false_iff_ne.2 hbm
              have HSt2 : Hid (st ++ [((q : Int), (t : Int))] = SQ ++ stT1 R v.n q (t + 1)) := Lib.hid (by rw [stT1_succ, HNQ.out, hRt, HSt.out]; simp)
              clear hRt
              go_upto_region 14 with (first
                | (go_at_call 49; refine H49k.out.mono ?_; rintro e w6 ⟨rfl, hb6⟩; have HB6 := Lib.hid (HB1.out.trans (hb6.mono HB1.out.size)); have hby := HBYw.out _ HB6.out; have HO6 := Lib.hid (grown_own HO1.out hb6); clear hb6)
                | fail)
              have hown := HO6.out.alloc (.cells #[I q, I t] 46)
              have hBn : Below w5.heap.size w5 (w6.alloc (.cells #[I q, I t] 46)) := HB6.out.alloc HB6.out.size _
              have hcn : ∀ j u, ([I q, I t] : List Value)[j]? = some u → (w6.alloc (.cells #[I q, I t] 46)).cell? ((⟨w6.heap.size, 0, none⟩ : Addr).add j) = some u := cells_new w6 [I q, I t] 46
              go_wp2_with (first
                | (at_builtin; refine wpList_append_any _ rfl _ _ 36 rfl w5.heap.size 46 i0 (sd 0 0) 2 16 Tryd.underlying36 hi0 hi1 hi2 hi3 rfl (by decide) _ st.length (flat2 st) rfl hown (some ⟨w6.heap.size, 0, none⟩) 1 1 [I q, I t] rfl rfl (fun _ => ⟨_, rfl, hcn⟩) (by simp [Value.oneCell']) (by unfold maxLen; omega) (by omega) hBn.size ?_; intro r1 w7 ho1 hg1; have HBz := Lib.hid (hBn.grown hg1 hBn.size (fun g e => (hown.lt g e).1)); have HOz := Lib.hid ho1; clear ho1 hg1 hown hBn hcn)
                | fail)
              go_roundw
              case rel => exact ⟨t + 1, st ++ [((q : Int), (t : Int))], by go_num, by omega, HSt2, by simp; omega, HBz, Lib.hid (by rw [flat2_app]; simpa [flat2] using HOz.out)⟩
              case measure => first | (simp [intOf]; done) | (simp [intOf]; omega)
          · have htm2 : ¬ (t : Int) ≤ (mn : Int) := by omega
            obtain rfl : t = mn + 1 := by omega
            have hst := HSt.out
            rw [← HSQ.out] at hst
            subst hst
            go_wp2_with (fail)
            go_roundw
            case rel => exact ⟨q + 1, by go_num, by omega, HB1, HO1⟩
            case measure => first | (simp [intOf]; done) | (simp [intOf]; omega)
      · have qq1 : ¬ (q : Int) < (v.rm.length : Int) := by omega
        obtain rfl : q = v.rm.length := by omega
        obtain ⟨Ax, cx, hr2, hT2, _⟩ := twos_own HO1.out rfl
        subst hr2
        have HT2 := Lib.hid hT2
        clear hT2 HO1
        go_wp2_with (fail)
        obtain ⟨la, hla⟩ : ∃ y, stQ R v.n mn v.rm.length = y := ⟨_, rfl⟩
        have HLA : Hid (la = standsR v mn R) := Lib.hid hla.symm
        rw [hla] at HT2
        try rw [hla]
        refine bodyPost_ret (v := .tuple #[.slice Ax la.length cx, I 0]) (by simp [results, Tryd.results19, go_sem, hla]) rfl ⟨Ax, cx, la, by rw [HE.out], ⟨fun _ => ⟨val, R, HMR.out, HLA.out⟩, fun h => absurd HE.out h⟩, HT2.out, (HBX.out _ HBW.out).2⟩
  · have HE : Hid (WallAns v p m []) := Lib.hid ⟨fun h => absurd h he, fun _ => rfl⟩
    obtain ⟨e0, he0⟩ : ∃ z, errN v p m = z := ⟨_, rfl⟩
    rw [he0] at H21 he ⊢
    clear he0
    have heb : (e0 == 0) = false := by simpa using he
    go_enter Tryd.func19, Tryd.ntmps19
    go_wp2_with (first
      | (go_at_call 21; refine (H21.out _ (Below.refl _ _)).mono ?_; rintro e w3 ⟨rfl, hb3⟩; have hB3 := (HBX.out w3 hb3).2)
      | fail)
    refine bodyPost_ret (v := .tuple #[.slice none 0 0, I e0]) (by simp [results, Tryd.results19, go_sem]) rfl ⟨none, 0, [], rfl, HE.out, fun h => absurd h (by simp), hB3⟩
end Go.Proofs.YtomfnldlnoiloaaDoor
