/- Does a crowd hold? of the program. -/
import Derived.Test.YtfebhofihioaoaaS25
namespace Go.Proofs.Ytfebhofihioaoaa
set_option linter.unusedVariables false
set_option linter.unusedSimpArgs false
open Go Go.RowKit

structure BrB (W : World) (x : Prk) (A : Option Addr) (c X0 Pb P At Wt Fb : Nat) (at_ : Nat → Int) (wt : Nat → Nat → Int) : Prop where
  x0 : Box W X0 [.slice A x.sp.length c, I x.alo, I x.ahi]
  pb : Box W Pb [.pointer (some ⟨P, 0, none⟩)]
  from_ : ∀ s, s < x.n → W.cell? ⟨P, 4 + s, none⟩ = some (I (fromN x s : Nat))
  pz : P < W.heap.size
  fb : Box W Fb [.func (.func 37) #[] #[.pointer (some ⟨X0, 0, none⟩), .pointer (some ⟨Pb, 0, none⟩), .pointer (some ⟨At, 0, none⟩), .pointer (some ⟨Wt, 0, none⟩), .pointer (some ⟨Fb, 0, none⟩)]]
  bat : Box W At (six at_)
  bwt : Box W Wt (grid wt)
section
variable {W W' : World} {x : Prk} {A : Option Addr} {c X0 Pb P At Wt Fb Sn : Nat} {at_ : Nat → Int} {wt : Nat → Nat → Int} {seen : Nat}
theorem BrS.base (h : BrS W x A c X0 Pb P At Wt Fb Sn at_ wt seen) : BrB W x A c X0 Pb P At Wt Fb at_ wt := ⟨h.x0, h.pb, h.from_, h.pz, h.fb, h.bat, h.bwt⟩
theorem BrB.call (h : BrB W x A c X0 Pb P At Wt Fb at_ wt) (hB : Below W.heap.size W W') : BrB W' x A c X0 Pb P At Wt Fb at_ wt :=
  ⟨h.x0.call hB, h.pb.call hB, fun s hs => (hB.cell (p := ⟨P, 4 + s, none⟩) h.pz).trans (h.from_ s hs), Nat.lt_of_lt_of_le h.pz hB.size, h.fb.call hB, h.bat.call hB, h.bwt.call hB⟩
theorem BrB.seen_ (h : BrB W x A c X0 Pb P At Wt Fb at_ wt) : BrS (W.alloc (.cells #[I 0] 3)) x A c X0 Pb P At Wt Fb W.heap.size at_ wt 0 := by
  have k := h.call (below1 W (.cells #[I 0] 3))
  exact ⟨k.x0, k.pb, k.from_, k.pz, k.fb, k.bat, k.bwt, Box.new W [I 0] 3⟩
end
theorem need_bd {x : Prk} (hx : PrkOk x) {m : List Int} (hm : possB x m = true) {k : Nat} (hk : k < x.n) : 0 ≤ crF m k ∧ crF m k ≤ 1048576 ∧ 0 ≤ need1 (x.ho k) (crF m k) ∧ need1 (x.ho k) (crF m k) ≤ 1048576 := by
  have h1 := (possB_iff.1 hm).2.1 k hk
  have h2 := hx.peo k hk
  have h3 := hx.hold k hk
  have h4 := need1_bd (h := x.ho k) (p := crF m k) h3.1 (by omega)
  omega
/-- So many have been brought to each spot. -/
def ColI (x : Prk) (m : List Int) (wt : Nat → Nat → Int) (i : Nat) (j : Int) : Prop := ∀ t, t < x.n → colN x.n wt t = if t < i then need1 (x.ho t) (crF m t) else if t = i then j else 0
set_option maxRecDepth 100000 in
set_option maxHeartbeats 1500000 in
theorem holds13_ok (x : Prk) (A B D : Option Addr) (c d f : Nat) (l m : List Int) (w : World) (hx : PrkOk x) (hA : Fours w w.heap.size A x.sp) (hl : Ints w w.heap.size B l) (hm : Ints w w.heap.size D m)
    (hpo : postsB x l = true) (hpm : possB x m = true) :
    Calls Try.prog 13 #[x.val A c, .slice B l.length d, .slice D m.length f] w fun e w' => e = .returned (.tuple #[.bool (holdsB x l m), I 0]) ∧ Below w.heap.size w w' := by
  have HX := Lib.hid hx
  have hn6 : x.sp.length ≤ 6 := hx.n6
  have hll : l.length = x.sp.length := (postsB_iff.1 hpo).1
  have hmx : m.length = x.sp.length := (possB_iff.1 hpm).1
  have HPC := Lib.hid (posts_crF (postsB_iff.1 hpo)).2
  have HNB : Hid (∀ k, k < x.sp.length → 0 ≤ crF m k ∧ crF m k ≤ 1048576 ∧ 0 ≤ need1 (x.ho k) (crF m k) ∧ need1 (x.ho k) (crF m k) ≤ 1048576) := Lib.hid fun k hk => need_bd hx hpm hk
  have HRP : Hid (∀ i, i < x.n → readP x l i = crF l i) := Lib.hid fun i hi => readP_eq hpo hi
  have HLO : Hid (∀ k (h : k < x.sp.length), x.sp[k].1 = x.lo k ∧ x.sp[k].2.1 = x.hi k ∧ x.sp[k].2.2.1 = x.ho k ∧ x.sp[k].2.2.2 = x.ne k) := Lib.hid fun k h => by simp [Prk.lo, Prk.hi, Prk.ho, Prk.ne, List.getD, h]
  have HCR : Hid (∀ k (h : k < m.length), m[k] = crF m k) := Lib.hid fun k h => by simp [List.getD, h]
  have H29 : Hid (∀ W : World, Fours W W.heap.size A x.sp → Calls Try.prog 29 #[.agg #[.slice A x.sp.length c, I x.alo, I x.ahi]] W fun e w' => e = .returned (.bool true) ∧ Below W.heap.size W w') := Lib.hid fun W h => by
    have := isPark29 x A c W h (by omega)
    rwa [prkB_iff.2 hx] at this
  have H35 : Hid (∀ W : World, Ints W W.heap.size B l → Calls Try.prog 35 #[.agg #[.slice A x.sp.length c, I x.alo, I x.ahi], .slice B l.length d] W fun e w' => e = .returned (.tuple #[.agg #[I (readP x l 0), I (readP x l 1), I (readP x l 2), I (readP x l 3), I (readP x l 4), I (readP x l 5)], .bool true]) ∧ Below W.heap.size W w') := Lib.hid fun W h => by
    have := read35 x A B c d l W hn6 h (by omega)
    rwa [hpo] at this
  have H36 : Hid (∀ W : World, Fours W W.heap.size A x.sp → Ints W W.heap.size D m → Calls Try.prog 36 #[.agg #[.slice A x.sp.length c, I x.alo, I x.ahi], .slice D m.length f] W fun e w' => e = .returned (.bool true) ∧ Below W.heap.size W w') := Lib.hid fun W h h' => by
    have := isPossible36 x A D c f m W hx h h' (by omega)
    rwa [hpm] at this
  have H31 : Hid (∀ W : World, Fours W W.heap.size A x.sp → Calls Try.prog 31 #[.agg #[.slice A x.sp.length c, I x.alo, I x.ahi]] W fun e w' => ∃ P : Nat, e = .returned (.pointer (some ⟨P, 0, none⟩)) ∧ W.heap.size ≤ P ∧ P < w'.heap.size ∧ (∀ s, s < x.n → w'.cell? ⟨P, 4 + s, none⟩ = some (I (fromN x s : Nat))) ∧ Below W.heap.size W w') := Lib.hid fun W hW => (newPark31 x A c W hx hW).mono fun e w' ⟨B', d', h1, h2, h3, h4⟩ => ⟨_, h1, by omega, h2.lt, h2.from_, h4⟩
  have HYES : Hid (HoldsX x (crF l) (crF m) → holdsB x l m = true) := Lib.hid holdsB_iff.2
  have HNO : Hid (¬ HoldsX x (crF l) (crF m) → holdsB x l m = false) := Lib.hid fun h => bool_false fun hb => h (holdsB_iff.1 hb)
  have HA := Lib.hid hA
  have HL := Lib.hid hl
  have HM := Lib.hid hm
  have HMX := Lib.hid hmx
  have hm6 : m.length ≤ 6 := by omega
  clear hA hx hl hm hpo hpm hll hmx
  simp only [Prk.val]
  generalize holdsB x l m = hb at *
  generalize hrp : readP x l = p at *
  clear hrp
  obtain ⟨al, hal⟩ : ∃ al, x.alo = al := ⟨_, rfl⟩
  obtain ⟨ah, hah⟩ : ∃ ah, x.ahi = ah := ⟨_, rfl⟩
  rw [hal, hah] at H29 H35 H36 H31 ⊢
  have HAL := Lib.hid hal
  have HAH := Lib.hid hah
  clear hal hah
  have HW : Hid (Below w.heap.size w (w.alloc (.cells #[.slice A x.sp.length c, I al, I ah] 26))) := Lib.hid (below1 _ _)
  have HBX : Hid (Box (w.alloc (.cells #[.slice A x.sp.length c, I al, I ah] 26)) w.heap.size [.slice A x.sp.length c, I al, I ah]) := Lib.hid (Box.new w _ 26)
  have HCP : Hid (∀ W, Below (w.heap.size + 1) (w.alloc (.cells #[.slice A x.sp.length c, I al, I ah] 26)) W → W.cell? ⟨w.heap.size, 0, none⟩ = some (.slice A x.sp.length c) ∧ W.cell? ⟨w.heap.size, 1, none⟩ = some (I al) ∧ W.cell? ⟨w.heap.size, 2, none⟩ = some (I ah) ∧ Below w.heap.size w W) := Lib.hid fun W hW =>
    ⟨(hW.cell (p := ⟨_, _, none⟩) (by simp)).trans (by simp [go_sem]), (hW.cell (p := ⟨_, _, none⟩) (by simp)).trans (by simp [go_sem]), (hW.cell (p := ⟨_, _, none⟩) (by simp)).trans (by simp [go_sem]), (below1 w _).trans (hW.mono (by omega))⟩
  have hsz : (w.alloc (.cells #[.slice A x.sp.length c, I al, I ah] 26)).heap.size = w.heap.size + 1 := by simp
  have HFI : Hid (∀ W, Below w.heap.size w W → Fours W W.heap.size A x.sp ∧ Ints W W.heap.size B l ∧ Ints W W.heap.size D m) := Lib.hid fun W hW => ⟨(HA.out.below hW).more hW.size, (HL.out.below hW).more hW.size, (HM.out.below hW).more hW.size⟩
  go_enter Try.func13, Try.ntmps13
  go_wp2_with (first
    | (go_at_call 29; refine (H29.out _ (HFI.out _ HW.out).1).mono ?_; rintro e w1 ⟨rfl, hB1⟩; obtain ⟨q0, q1, q2, hBw1⟩ := HCP.out w1 (hB1.mono (by omega)))
    | (go_at_call 35; refine (H35.out _ (HFI.out _ hBw1).2.1).mono ?_; rintro e w2 ⟨rfl, hB2⟩; have hz2 : w.heap.size + 1 ≤ w2.heap.size := (by have := hB1.size; have := hB2.size; omega); have HBW2 : Hid (Below (w.heap.size + 1) (w.alloc (.cells #[.slice A x.sp.length c, I al, I ah] 26)) (w2.alloc (.cells #[I (p 0), I (p 1), I (p 2), I (p 3), I (p 4), I (p 5)] 65))) := Lib.hid (((hB1.mono (by omega)).trans (hB2.mono (by have := hB1.size; omega))).alloc hz2 _); obtain ⟨s0, s1, s2, hBw2⟩ := HCP.out _ HBW2.out; have hz2a : (w2.alloc (.cells #[I (p 0), I (p 1), I (p 2), I (p 3), I (p 4), I (p 5)] 65)).heap.size = w2.heap.size + 1 := (by simp))
    | (go_at_call 36; refine (H36.out _ (HFI.out _ hBw2).1 (HFI.out _ hBw2).2.2).mono ?_; rintro e w3 ⟨rfl, hB3⟩; have HBW3 := Lib.hid (HBW2.out.trans (hB3.mono (by omega))); obtain ⟨t0, t1, t2, hBw3⟩ := HCP.out _ HBW3.out)
    | (go_at_call 31; refine (H31.out _ (HFI.out _ hBw3).1).mono ?_; rintro e w4 ⟨P, rfl, hP1, hP2, hPf, hB4⟩)
    | fail)
  have hz3 := hB3.size
  have hz4 := hB4.size
  have HBW4 : Hid (Below (w.heap.size + 1) (w.alloc (.cells #[.slice A x.sp.length c, I al, I ah] 26)) w4) := Lib.hid (HBW3.out.trans (hB4.mono (by omega)))
  have HAT : Hid (Box w4 w2.heap.size (six p)) := Lib.hid (((Box.new w2 (six p) 65).call hB3).call hB4)
  have HPf := Lib.hid hPf
  have hz24 : w2.heap.size + 1 ≤ w4.heap.size := by omega
  have hP0 : w2.heap.size < P := by omega
  clear hB1 hB2 hB3 hB4 q0 q1 q2 s0 s1 s2 t0 t1 t2 hBw1 hBw2 hBw3 hPf HBW2 HBW3
  obtain ⟨W, hW⟩ : ∃ W, W = ((w4.alloc (.cells #[.pointer (some ⟨P, 0, none⟩)] 61)).alloc (.cells #[I 0, I 0, I 0, I 0, I 0, I 0, I 0, I 0, I 0, I 0, I 0, I 0, I 0, I 0, I 0, I 0, I 0, I 0, I 0, I 0, I 0, I 0, I 0, I 0, I 0, I 0, I 0, I 0, I 0, I 0, I 0, I 0, I 0, I 0, I 0, I 0] 68)).alloc (.cells #[.func (.func 37) #[] #[.pointer (some ⟨w.heap.size, 0, none⟩), .pointer (some ⟨w4.heap.size, 0, none⟩), .pointer (some ⟨w2.heap.size, 0, none⟩), .pointer (some ⟨w4.heap.size + 1, 0, none⟩), .pointer (some ⟨w4.heap.size + 1 + 1, 0, none⟩)]] 69) := ⟨_, rfl⟩
  have hWz : W.heap.size = w4.heap.size + 3 := by rw [hW]; simp
  have HB2 : Hid (Below w4.heap.size w4 W) := Lib.hid (by rw [hW]; (repeat' (first | assumption | exact Below.refl _ _ | refine Below.drew ?_ | refine below_drewN ?_ _ | refine Below.setCell ?_ (by first | omega | (simp; done) | (simp; omega)) _ | refine Below.alloc ?_ (by first | omega | (simp; done) | (simp; omega)) _ | refine Below.trans ?_ (Below.mono (by assumption) (by first | omega | (simp; done) | (simp; omega))))))
  have HBWW : Hid (Below (w.heap.size + 1) (w.alloc (.cells #[.slice A x.sp.length c, I al, I ah] 26)) W) := Lib.hid (HBW4.out.trans (HB2.out.mono (by omega)))
  have K0 : Hid (Box W w4.heap.size [.pointer (some ⟨P, 0, none⟩)]) := Lib.hid (by rw [hW]; exact ((Box.new w4 _ 61).alloc _).alloc _)
  have K1 : Hid (Box W (w4.heap.size + 1) (grid fun _ _ => 0)) := Lib.hid (by
    rw [hW]
    have := Box.new (w4.alloc (.cells #[.pointer (some ⟨P, 0, none⟩)] 61)) [I 0, I 0, I 0, I 0, I 0, I 0, I 0, I 0, I 0, I 0, I 0, I 0, I 0, I 0, I 0, I 0, I 0, I 0, I 0, I 0, I 0, I 0, I 0, I 0, I 0, I 0, I 0, I 0, I 0, I 0, I 0, I 0, I 0, I 0, I 0, I 0] 68
    simp only [World.size_alloc] at this
    exact this.alloc _)
  have K2 : Hid (Box W (w4.heap.size + 1 + 1) [.func (.func 37) #[] #[.pointer (some ⟨w.heap.size, 0, none⟩), .pointer (some ⟨w4.heap.size, 0, none⟩), .pointer (some ⟨w2.heap.size, 0, none⟩), .pointer (some ⟨w4.heap.size + 1, 0, none⟩), .pointer (some ⟨w4.heap.size + 1 + 1, 0, none⟩)]]) := Lib.hid (by
    rw [hW]
    have := Box.new ((w4.alloc (.cells #[.pointer (some ⟨P, 0, none⟩)] 61)).alloc (.cells #[I 0, I 0, I 0, I 0, I 0, I 0, I 0, I 0, I 0, I 0, I 0, I 0, I 0, I 0, I 0, I 0, I 0, I 0, I 0, I 0, I 0, I 0, I 0, I 0, I 0, I 0, I 0, I 0, I 0, I 0, I 0, I 0, I 0, I 0, I 0, I 0] 68)) [.func (.func 37) #[] #[.pointer (some ⟨w.heap.size, 0, none⟩), .pointer (some ⟨w4.heap.size, 0, none⟩), .pointer (some ⟨w2.heap.size, 0, none⟩), .pointer (some ⟨w4.heap.size + 1, 0, none⟩), .pointer (some ⟨w4.heap.size + 1 + 1, 0, none⟩)]] 69
    simp only [World.size_alloc] at this
    exact this)
  have HB0 : Hid (BrB W x A c w.heap.size w4.heap.size P w2.heap.size (w4.heap.size + 1) (w4.heap.size + 1 + 1) p (fun _ _ => 0)) := Lib.hid ⟨by rw [HAL.out, HAH.out]; exact HBX.out.below HBWW.out (by omega), K0.out, fun s hs => (HB2.out.cell (p := ⟨P, 4 + s, none⟩) hP2).trans (HPf.out s hs), by omega, K2.out, HAT.out.call HB2.out, K1.out⟩
  have HD : Hid (∀ Sn, W.heap.size ≤ Sn → BrD w.heap.size w4.heap.size P w2.heap.size (w4.heap.size + 1) (w4.heap.size + 1 + 1) Sn) := Lib.hid fun Sn h => ⟨by omega, hP0, hP2, by omega, by omega, by omega⟩
  have HWE : Hid (Went x.n (frX x) (crF l) p (fun _ _ => 0)) := Lib.hid ⟨fun i hi => by rw [HRP.out i hi]; exact (HPC.out i hi).1, fun _ _ _ _ => Int.le_refl _, fun _ _ _ _ h => absurd h (by decide), fun i hi => by rw [HRP.out i hi, sumN_zero]; omega⟩
  have HCO : Hid (ColI x m (fun _ _ => 0) 0 0) := Lib.hid fun t ht => by
    unfold colN
    rw [sumN_zero]
    by_cases e : t = 0 <;> simp [e]
  have HBL : Hid (∀ W', Frm W.heap.size (fun k => k = w2.heap.size ∨ k = w4.heap.size + 1) W W' → Below w.heap.size w W') := Lib.hid fun W' h => by
    have h0 := (HCP.out W HBWW.out).2.2.2
    exact h0.trans (h.below (by omega) (fun k hk e => by rcases e with e | e <;> omega))
  have HIB : Hid (∀ W', Below w.heap.size w W' → ∀ k, k < x.sp.length → ∃ ab ao, A = some ⟨ab, ao, none⟩ ∧ ab < w.heap.size ∧ W'.cell? ⟨ab, ao + k * 4, none⟩ = some (I (x.lo k)) ∧ W'.cell? ⟨ab, ao + k * 4 + 1, none⟩ = some (I (x.hi k)) ∧ W'.cell? ⟨ab, ao + k * 4 + 2, none⟩ = some (I (x.ho k)) ∧ W'.cell? ⟨ab, ao + k * 4 + 3, none⟩ = some (I (x.ne k))) := Lib.hid fun W' hW k hk => by
    obtain ⟨ab, ao, hAe, haz, hac⟩ := (HA.out.below hW) (by omega)
    obtain ⟨a0, a1, a2, a3⟩ := hac k hk
    obtain ⟨e0, e1, e2, e3⟩ := HLO.out k hk
    rw [e0] at a0
    rw [e1] at a1
    rw [e2] at a2
    rw [e3] at a3
    exact ⟨ab, ao, hAe, haz, a0, a1, a2, a3⟩
  have HIM : Hid (∀ W', Below w.heap.size w W' → ∀ k, k < x.sp.length → ∃ mb mo, D = some ⟨mb, mo, none⟩ ∧ W'.cell? ⟨mb, mo + k, none⟩ = some (I (crF m k))) := Lib.hid fun W' hW k hk => by
    have hkm : k < m.length := by rw [HMX.out]; exact hk
    obtain ⟨mb, mo, h1, _, h3⟩ := (HM.out.below hW) (by omega)
    have := h3 k hkm
    rw [HCR.out k hkm] at this
    exact ⟨mb, mo, h1, this⟩
  rw [show World.alloc (World.alloc (World.alloc w4 _) _) _ = W from hW.symm]
  clear hW
  go_loopw [39] (fun s39 wr => ∃ (i : Nat) (at_ : Nat → Int) (wt : Nat → Nat → Int), i ≤ m.length ∧ s39 = I i ∧ Hid (Frm W.heap.size (fun k => k = w2.heap.size ∨ k = w4.heap.size + 1) W wr) ∧ Hid (BrB wr x A c w.heap.size w4.heap.size P w2.heap.size (w4.heap.size + 1) (w4.heap.size + 1 + 1) at_ wt) ∧ Hid (Went x.n (frX x) (crF l) at_ wt) ∧ Hid (ColI x m wt i 0)) (fun s _ => m.length - (intOf s).toNat)
  case atStart => exact ⟨0, _, _, by omega, rfl, Lib.hid (Frm.refl _ _ _), HB0, HWE, HCO⟩
  case round =>
    clear HB0 HWE HCO K0 K1 K2 HAT HPf
    obtain ⟨i, at_, wt, hi, rfl, HF, HBR, HWE, HCO⟩ := hrel
    have hzr := HF.out.size
    have hbw := HBL.out _ HF.out
    by_cases hlt : i < m.length
    · have hlx : i < x.sp.length := by have := HMX.out; omega
      obtain ⟨ab, ao, hAe, haz, a0, a1, a2, a3⟩ := HIB.out _ hbw i hlx
      obtain ⟨mb, mo, hDe, m0⟩ := HIM.out _ hbw i hlx
      subst hAe hDe
      obtain ⟨c0, _⟩ := HBR.out.x0.at_ 0 _ rfl
      obtain ⟨hc0, hc1, hn0, hn1⟩ := HNB.out i hlx
      obtain ⟨ho1, ho2⟩ := HX.out.hold i hlx
      have H38 : Hid (∀ W : World, Calls Try.prog 38 #[.agg #[I (x.lo i), I (x.hi i), I (x.ho i), I (x.ne i)], I (crF m i)] W fun e w' => e = .returned (I (need1 (x.ho i) (crF m i))) ∧ Below W.heap.size W w') := Lib.hid fun W => need38 _ _ _ _ _ W ho1 ho2 (by omega) (by omega)
      have HNE : Hid (need1 (x.ho i) (crF m i) = need1 (x.ho i) (crF m i)) := Lib.hid rfl
      obtain ⟨q, hq⟩ : ∃ q, need1 (x.ho i) (crF m i) = q := ⟨_, rfl⟩
      have HQ := Lib.hid hq
      rw [hq] at hn0 hn1 H38
      clear hq HNE
      obtain ⟨v, hv⟩ : ∃ v, crF m i = v := ⟨_, rfl⟩
      obtain ⟨lo, hlo⟩ : ∃ v, x.lo i = v := ⟨_, rfl⟩
      obtain ⟨hi', hhi⟩ : ∃ v, x.hi i = v := ⟨_, rfl⟩
      obtain ⟨ho, hho⟩ : ∃ v, x.ho i = v := ⟨_, rfl⟩
      obtain ⟨ne, hne⟩ : ∃ v, x.ne i = v := ⟨_, rfl⟩
      rw [hv] at m0 hc0 hc1 H38
      rw [hlo] at a0 H38
      rw [hhi] at a1 H38
      rw [hho] at a2 H38 ho1 ho2
      rw [hne] at a3 H38
      clear hv hlo hhi hho hne
      have p0 : (0 : Int) ≤ (i : Int) := by omega
      have p1 : (i : Int) < (m.length : Int) := by omega
      have p2 : (i : Int) < (x.sp.length : Int) := by omega
      by_cases h72 : 72 < q
      · have HF0 := Lib.hid (HNO.out (hall_one (posts := crF l) HPC.out HX.out.n6 (j := i) hlx (by rw [HQ.out]; exact h72)))
        go_wp2_with (first
          | (go_at_call 38; refine (H38.out _).mono ?_; rintro e w5 ⟨rfl, hB5⟩)
          | fail)
        refine bodyPost_ret (v := .tuple #[.bool false, I 0]) (by simp [results, Try.results13, go_sem]) rfl ⟨by rw [HF0.out], hbw.trans (hB5.mono hbw.size)⟩
      · go_wp2_with (first
          | (go_at_call 38; refine (H38.out _).mono ?_; rintro e w5 ⟨rfl, hB5⟩)
          | fail)
        have HF5 : Hid (Frm W.heap.size (fun k => k = w2.heap.size ∨ k = w4.heap.size + 1) W w5) := Lib.hid (HF.out.then_ hB5 hzr)
        have HBR5 := Lib.hid (HBR.out.call hB5)
        clear HF HBR hB5 c0 a0 a1 a2 a3 m0 hbw
        go_loopw [54] (fun s54 wr => ∃ (j : Nat) (at_ : Nat → Int) (wt : Nat → Nat → Int), (j : Int) ≤ q ∧ s54 = I j ∧ Hid (Frm W.heap.size (fun k => k = w2.heap.size ∨ k = w4.heap.size + 1) W wr) ∧ Hid (BrB wr x (some ⟨ab, ao, none⟩) c w.heap.size w4.heap.size P w2.heap.size (w4.heap.size + 1) (w4.heap.size + 1 + 1) at_ wt) ∧ Hid (Went x.n (frX x) (crF l) at_ wt) ∧ Hid (ColI x m wt i j)) (fun s _ => q.toNat - (intOf s).toNat)
        case atStart => exact ⟨0, at_, wt, by omega, rfl, HF5, HBR5, HWE, HCO⟩
        case round =>
          clear HF5 HBR5 HWE HCO
          obtain ⟨j, at_, wt, hj, rfl, HF, HBR, HWE, HCO⟩ := hrel
          have hzr := HF.out.size
          by_cases hlj : (j : Int) < q
          · have hr0 : (0 : Int) ≤ (j : Int) := by omega
            have HSS := Lib.hid HBR.out.seen_
            obtain ⟨b0, _⟩ := HSS.out.fb.at_ 0 _ rfl
            have H37 := Lib.hid (bring_is x (crF l) _ c _ _ _ _ _ _ wr.heap.size HX.out (fun i hi => (HPC.out i hi).2) (HD.out _ hzr) (unS x.n 0) _ at_ wt i 0 hlx (by decide) (Nat.le_refl _) HWE.out HSS.out)
            go_wp2_with (fail)
            refine H37.out.mono ?_
            rintro e w6 ⟨b, at', wt', T, rfl, hF6, hS6, hB6⟩
            have HF6 : Hid (Frm W.heap.size (fun k => k = w2.heap.size ∨ k = w4.heap.size + 1) W w6) := Lib.hid ((HF.out.alloc hzr (.cells #[I 0] 3)).trans (hF6.mono (by simp; omega) (fun k hk e => by rcases e with e | e | e; exact .inl e; exact .inr e; omega)))
            have HBR6 := Lib.hid hS6.base
            have HB6 := Lib.hid hB6
            clear hF6 hS6 hB6
            cases b
            · obtain ⟨hae, hwe, hcl⟩ := HB6.out.no rfl
              have HF0 : Hid (hb = false) := Lib.hid (HNO.out (hall_no (j := i) (V := fun k => T.testBit k) HWE.out (fun t ht => by
                  have h1 := HCO.out t ht
                  have h2 := (HNB.out t ht).2.2.1
                  rw [h1]
                  split
                  · exact Int.le_refl _
                  · split
                    · rename_i e; subst e; rw [HQ.out]; omega
                    · exact h2) hlx (by rw [HCO.out i hlx, if_neg (by omega), if_pos rfl, HQ.out]; exact hlj)
                (fun k hk hV => (hcl.new k hk hV (by simp)).1) (fun k hk hf => hcl.all k hk hf) (fun k t hk ht hV hw j' hj' hf => (hcl.new k hk hV (by simp)).2 t ht hw j' hj' hf)))
              have hbw := HBL.out _ HF6.out
              clear hcl
              go_wp2_with (fail)
              refine bodyPost_ret (v := .tuple #[.bool false, I 0]) (by simp [results, Try.results13, go_sem]) rfl ⟨by rw [HF0.out], hbw⟩
            · have HC6 : Hid (ColI x m wt' i ((j : Int) + 1)) := Lib.hid fun t ht => by
                rw [(HB6.out.yes rfl).1 t ht, HCO.out t ht]
                by_cases h1 : t < i
                · rw [if_pos h1, if_pos h1, if_neg (by omega)]; omega
                · rw [if_neg h1, if_neg h1]
                  by_cases h2 : t = i
                  · rw [if_pos h2, if_pos h2, if_pos h2]
                  · rw [if_neg h2, if_neg h2, if_neg h2]; omega
              have HW6 := Lib.hid HB6.out.went
              have HC7 : Hid (ColI x m wt' i ((j + 1 : Nat) : Int)) := Lib.hid (by rw [show ((j + 1 : Nat) : Int) = (j : Int) + 1 by omega]; exact HC6.out)
              go_wp2_with (fail)
              go_roundw
              case rel => first | exact ⟨j + 1, at', wt', by omega, by go_num, HF6, HBR6, HW6, HC7⟩ | ((repeat apply Exists.intro); refine ⟨?_, rfl⟩; exact ⟨j + 1, at', wt', by omega, by go_num, HF6, HBR6, HW6, HC7⟩)
              case measure => first | (simp [intOf]; done) | (simp [intOf]; omega)
          · have HC6 : Hid (ColI x m wt (i + 1) 0) := Lib.hid fun t ht => by
              rw [HCO.out t ht]
              by_cases h1 : t < i
              · rw [if_pos h1, if_pos (by omega)]
              · rw [if_neg h1]
                by_cases h2 : t = i
                · subst h2; rw [if_pos rfl, if_pos (by omega), HQ.out]; omega
                · rw [if_neg h2, if_neg (by omega)]; split <;> rfl
            go_wp2_with (fail)
            go_roundw
            case rel => first | exact ⟨i + 1, at_, wt, by omega, by go_num, HF, HBR, HWE, HC6⟩ | ((repeat apply Exists.intro); refine ⟨?_, rfl⟩; exact ⟨i + 1, at_, wt, by omega, by go_num, HF, HBR, HWE, HC6⟩)
            case measure => first | (simp [intOf]; done) | (simp [intOf]; omega)
    · obtain rfl : i = m.length := by omega
      have HF0 : Hid (hb = true) := Lib.hid (HYES.out (hall_yes HWE.out fun t ht => by
        rw [HCO.out t ht, if_pos (by rw [HMX.out]; exact ht)]))
      go_wp2_with (fail)
      refine bodyPost_ret (v := .tuple #[.bool true, I 0]) (by simp [results, Try.results13, go_sem]) rfl ⟨by rw [HF0.out], hbw⟩
set_option maxRecDepth 100000 in
set_option maxHeartbeats 1000000 in
theorem holds13 (x : Prk) (A B D : Option Addr) (c d f : Nat) (l m : List Int) (w : World) (hA : Fours w w.heap.size A x.sp) (hl : Ints w w.heap.size B l) (hm : Ints w w.heap.size D m)
    (hxl : x.sp.length ≤ 9223372036854775807) (hll : l.length ≤ 9223372036854775807) (hml : m.length ≤ 9223372036854775807) :
    Calls Try.prog 13 #[x.val A c, .slice B l.length d, .slice D m.length f] w fun e w' => e = .returned (.tuple #[.bool (holdsR x l m).1, I (holdsR x l m).2]) ∧ Below w.heap.size w w' := by
  have HA := Lib.hid hA
  have HL := Lib.hid hl
  have HM := Lib.hid hm
  have H29 : Hid (∀ W : World, Fours W W.heap.size A x.sp → Calls Try.prog 29 #[.agg #[.slice A x.sp.length c, I x.alo, I x.ahi]] W fun e w' => e = .returned (.bool (prkB x)) ∧ Below W.heap.size W w') := Lib.hid fun W h => isPark29 x A c W h hxl
  have H35 : Hid (prkB x = true → ∀ W : World, Ints W W.heap.size B l → Calls Try.prog 35 #[.agg #[.slice A x.sp.length c, I x.alo, I x.ahi], .slice B l.length d] W fun e w' => e = .returned (.tuple #[.agg #[I (readP x l 0), I (readP x l 1), I (readP x l 2), I (readP x l 3), I (readP x l 4), I (readP x l 5)], .bool (postsB x l)]) ∧ Below W.heap.size W w') := Lib.hid fun hb W h => read35 x A B c d l W (prkB_iff.1 hb).n6 h hll
  have H36 : Hid (prkB x = true → ∀ W : World, Fours W W.heap.size A x.sp → Ints W W.heap.size D m → Calls Try.prog 36 #[.agg #[.slice A x.sp.length c, I x.alo, I x.ahi], .slice D m.length f] W fun e w' => e = .returned (.bool (possB x m)) ∧ Below W.heap.size W w') := Lib.hid fun hb W h h' => isPossible36 x A D c f m W (prkB_iff.1 hb) h h' hml
  by_cases hall : prkB x = true ∧ postsB x l = true ∧ possB x m = true
  · obtain ⟨h1, h2, h3⟩ := hall
    have hr : holdsR x l m = (holdsB x l m, 0) := by unfold holdsR; rw [h1, h2, h3]; rfl
    rw [hr]
    exact holds13_ok x A B D c d f l m w (prkB_iff.1 h1) hA hl hm h2 h3
  have HR : Hid (holdsR x l m = if prkB x then (false, 2) else (false, 1)) := Lib.hid (by
    unfold holdsR
    cases h1 : prkB x
    · rfl
    · cases h2 : postsB x l
      · rfl
      · cases h3 : possB x m
        · rfl
        · exact absurd ⟨h1, h2, h3⟩ hall)
  clear hA hl hm hxl hll hml
  simp only [Prk.val]
  generalize prkB x = b1 at *
  generalize postsB x l = b2 at *
  generalize possB x m = b3 at *
  generalize holdsR x l m = r at *
  generalize readP x l = p at *
  generalize x.alo = al at *
  generalize x.ahi = ah at *
  have HW : Hid (Below w.heap.size w (w.alloc (.cells #[.slice A x.sp.length c, I al, I ah] 26))) := Lib.hid (below1 _ _)
  have HCP : Hid (∀ W, Below (w.heap.size + 1) (w.alloc (.cells #[.slice A x.sp.length c, I al, I ah] 26)) W → W.cell? ⟨w.heap.size, 0, none⟩ = some (.slice A x.sp.length c) ∧ W.cell? ⟨w.heap.size, 1, none⟩ = some (I al) ∧ W.cell? ⟨w.heap.size, 2, none⟩ = some (I ah) ∧ Below w.heap.size w W) := Lib.hid fun W hW =>
    ⟨(hW.cell (p := ⟨_, _, none⟩) (by simp)).trans (by simp [go_sem]), (hW.cell (p := ⟨_, _, none⟩) (by simp)).trans (by simp [go_sem]), (hW.cell (p := ⟨_, _, none⟩) (by simp)).trans (by simp [go_sem]), (below1 w _).trans (hW.mono (by omega))⟩
  have HFI : Hid (∀ W, Below w.heap.size w W → Fours W W.heap.size A x.sp ∧ Ints W W.heap.size B l ∧ Ints W W.heap.size D m) := Lib.hid fun W hW => ⟨(HA.out.below hW).more hW.size, (HL.out.below hW).more hW.size, (HM.out.below hW).more hW.size⟩
  have hsz : (w.alloc (.cells #[.slice A x.sp.length c, I al, I ah] 26)).heap.size = w.heap.size + 1 := by simp
  cases b1
  · have HR1 : Hid (r = (false, 1)) := Lib.hid (by rw [HR.out]; rfl)
    clear HR H36 H35 hall
    go_enter Try.func13, Try.ntmps13
    go_wp2_with (first
      | (go_at_call 29; refine (H29.out _ (HFI.out _ HW.out).1).mono ?_; rintro e w1 ⟨rfl, hB1⟩)
      | fail)
    refine bodyPost_ret (v := .tuple #[.bool false, I 1]) (by simp [results, Try.results13, go_sem]) rfl ⟨by rw [HR1.out], HW.out.trans (hB1.mono (by omega))⟩
  · have HR1 : Hid (r = (false, 2)) := Lib.hid (by rw [HR.out]; rfl)
    have H36' := Lib.hid (H36.out rfl)
    have H35' := Lib.hid (H35.out rfl)
    clear HR H36 H35
    cases b2
    · clear hall
      go_enter Try.func13, Try.ntmps13
      go_wp2_with (first
        | (go_at_call 29; refine (H29.out _ (HFI.out _ HW.out).1).mono ?_; rintro e w1 ⟨rfl, hB1⟩; obtain ⟨q0, q1, q2, hBw1⟩ := HCP.out w1 (hB1.mono (by omega)))
        | (go_at_call 35; refine (H35'.out _ (HFI.out _ hBw1).2.1).mono ?_; rintro e w2 ⟨rfl, hB2⟩)
        | fail)
      refine bodyPost_ret (v := .tuple #[.bool false, I 2]) (by simp [results, Try.results13, go_sem]) rfl ⟨by rw [HR1.out], (hBw1.trans (hB2.mono hBw1.size)).alloc (hBw1.trans (hB2.mono hBw1.size)).size _⟩
    · cases b3
      · clear hall
        go_enter Try.func13, Try.ntmps13
        go_wp2_with (first
          | (go_at_call 29; refine (H29.out _ (HFI.out _ HW.out).1).mono ?_; rintro e w1 ⟨rfl, hB1⟩; obtain ⟨q0, q1, q2, hBw1⟩ := HCP.out w1 (hB1.mono (by omega)))
          | (go_at_call 35; refine (H35'.out _ (HFI.out _ hBw1).2.1).mono ?_; rintro e w2 ⟨rfl, hB2⟩; have hz2 : w.heap.size + 1 ≤ w2.heap.size := (by have := hB1.size; have := hB2.size; omega); obtain ⟨s0, s1, s2, hBw2⟩ := HCP.out (w2.alloc (.cells #[I (p 0), I (p 1), I (p 2), I (p 3), I (p 4), I (p 5)] 65)) (((hB1.mono (by omega)).trans (hB2.mono (by have := hB1.size; omega))).alloc hz2 _))
          | (go_at_call 36; refine (H36'.out _ (HFI.out _ hBw2).1 (HFI.out _ hBw2).2.2).mono ?_; rintro e w3 ⟨rfl, hB3⟩)
          | fail)
        refine bodyPost_ret (v := .tuple #[.bool false, I 2]) (by simp [results, Try.results13, go_sem]) rfl ⟨by rw [HR1.out], hBw2.trans (hB3.mono hBw2.size)⟩
      · exact absurd ⟨rfl, rfl, rfl⟩ hall
end Go.Proofs.Ytfebhofihioaoaa
