/- The worst crowd, of the document. -/
import Derived.Test.YtfebhofihioaoaaA9
import Derived.Test.YtfebhofihioaoaaS12
import Derived.Laws.AppendOwnNone
namespace Go.Proofs.Ytfebhofihioaoaa
set_option linter.unusedVariables false
set_option linter.unusedSimpArgs false
open Go Go.RowKit

theorem info3 : (Try.prog.info? 3).map (fun i => (i.zero, i.size, i.bytes)) = some (some (.int .i64 0), 1, 8) := by kernel_rfl
theorem info_parts {t : TypeId} {z : Option Value} {s b : Nat} (h : (Try.prog.info? t).map (fun i => (i.zero, i.size, i.bytes)) = some (z, s, b)) : ∃ i, Try.prog.info? t = some i ∧ i.zero = z ∧ i.size = s ∧ i.bytes = b := by
  cases hi : Try.prog.info? t with
  | none => rw [hi] at h; cases h
  | some i =>
    rw [hi] at h
    simp only [Option.map_some, Option.some.injEq, Prod.mk.injEq] at h
    exact ⟨i, rfl, h.1, h.2.1, h.2.2⟩
def loL (x : Prk) (k : Nat) : List Int := (List.range k).map x.lo
theorem loL_succ (x : Prk) (k : Nat) : loL x (k + 1) = loL x k ++ [x.lo k] := by simp [loL, List.range_succ]
theorem loL_len (x : Prk) (k : Nat) : (loL x k).length = k := by simp [loL]
theorem crF_lo (x : Prk) {k i : Nat} (h : i < k) : crF (loL x k) i = x.lo i := by simp [crF, loL, List.getD, h]
theorem crF_set {l : List Int} {i : Nat} (h : i < l.length) (v : Int) (k : Nat) : crF (l.set i v) k = if k = i then v else crF l k := xF_set h v k
theorem sum_lo {x : Prk} (hx : PrkOk x) {k : Nat} (hk : k ≤ x.n) : 0 ≤ sumN x.lo k ∧ sumN x.lo k ≤ 6291456 := sum_crowd hx hk fun j hj => ⟨Int.le_refl _, (hx.peo j (by omega)).2.1⟩
/-- The row of the crowd, at its cells. -/
theorem row_at {W : World} {base g n cap : Nat} {e : TypeId} {cl : List Int} (h : W.ownsRow base e 1 (.slice (some ⟨g, 0, none⟩) n cap) n (cl.map I)) {k : Nat} (hk : k < n) (hl : cl.length = n) : W.cell? ⟨g, k, none⟩ = some (I (crF cl k)) ∧ W.frozen? ⟨g, k, none⟩ = false := by
  refine ⟨?_, h.frozenAt k⟩
  rw [h.cellAt k (by omega)]
  have hk' : k < cl.length := by omega
  simp [crF, List.getD, hk']
theorem row_set {W : World} {base g n cap : Nat} {e : TypeId} {cl : List Int} (h : W.ownsRow base e 1 (.slice (some ⟨g, 0, none⟩) n cap) n (cl.map I)) (k : Nat) (v : Int) : (W.setCell ⟨g, k, none⟩ (I v)).ownsRow base e 1 (.slice (some ⟨g, 0, none⟩) n cap) n ((cl.set k v).map I) := by
  rw [List.map_set]
  exact (World.ownsRow.stored h k (I v)).1
theorem worst1_bd {x : Prk} (hx : PrkOk x) {S : Nat} {e c : Nat → Int} {left : Int} (h : Worst1 x S e c left) : (0 ≤ left ∧ left ≤ 6291456) ∧ ∀ i, i < x.n → x.lo i ≤ c i ∧ c i ≤ x.hi i := by
  have hb : ∀ i, i < x.n → x.lo i ≤ c i ∧ c i ≤ x.hi i := fun i hi => by
    have h1 := h.crowd i hi
    have h2 := hx.hold i hi
    have h3 := hx.peo i hi
    obtain ⟨h4, h5⟩ := h.cap i hi
    have h6 := cost_nonneg (h := x.ho i) (lo := x.lo i) h2.1 (e i)
    have h8 : e i ≤ capS (x.ho i) (x.lo i) (x.hi i) := by
      have := cap_nonneg (h := x.ho i) (lo := x.lo i) (hi := x.hi i) h2.1
      unfold capC at h5
      split at h5 <;> omega
    have h9 := (cap_iff (h := x.ho i) (lo := x.lo i) (hi := x.hi i) h2.1 h3.2.1 h4).1 h8
    unfold coC at h1
    omega
  refine ⟨⟨h.left0, ?_⟩, hb⟩
  have h1 := h.left_
  have h2 := (sum_crowd hx (Nat.le_refl _) fun j hj => hb j hj).1
  have h3 := hx.all
  omega
set_option maxRecDepth 100000 in
set_option maxHeartbeats 8000000 in
theorem worst23 (x : Prk) (A : Option Addr) (c : Nat) (S : Nat) (w : World) (hx : PrkOk x) (hA : Fours w w.heap.size A x.sp) (hS : S < 64) :
    Calls Try.prog 23 #[x.val A c, I S] w fun e w' => ∃ (B : Option Addr) (d : Nat) (cl : List Int), e = .returned (.slice B cl.length d) ∧ Ints w' w'.heap.size B cl ∧ cl.length = x.n ∧ Possible x (crF cl) ∧ IsNeed x S (needC x S (crF cl)) ∧ Below w.heap.size w w' := by
  have HX := Lib.hid hx
  have hn6 : x.sp.length ≤ 6 := hx.n6
  obtain ⟨i0, hi0, hi1, hi2, hi3⟩ := info_parts info3
  have HI0 := Lib.hid hi0; have HI1 := Lib.hid hi1; have HI2 := Lib.hid hi2; have HI3 := Lib.hid hi3
  have hu : Try.prog.underlying 27 = some (.slice 3) := Try.underlying27
  have HU := Lib.hid hu
  have HLO : Hid (∀ k (h : k < x.sp.length), x.sp[k].1 = x.lo k ∧ x.sp[k].2.1 = x.hi k ∧ x.sp[k].2.2.1 = x.ho k ∧ x.sp[k].2.2.2 = x.ne k) := Lib.hid fun k h => by simp [Prk.lo, Prk.hi, Prk.ho, Prk.ne, List.getD, h]
  have HB24 : Hid (∀ (i : Nat) (W : World), i < 64 → Calls Try.prog 24 #[I S, I i] W fun e w' => e = .returned (.bool (S.testBit i)) ∧ W = w') := Lib.hid fun i W h => bit24 S i W (by omega) (by omega)
  have HA := Lib.hid hA
  have HSL : Hid (∀ k, k ≤ x.sp.length → 0 ≤ sumN x.lo k ∧ sumN x.lo k ≤ 6291456) := Lib.hid fun k hk => sum_lo hx hk
  have HSS : Hid (∀ k, sumN x.lo (k + 1) = sumN x.lo k + x.lo k) := Lib.hid fun k => rfl
  have hall := hx.all
  have HW1 : Hid (∀ cl : List Int, cl = loL x x.sp.length → Worst1 x S (fun _ => 0) (crF cl) (x.ahi - sumN x.lo x.sp.length)) := Lib.hid fun cl h => by
    subst h
    have h0 := Worst1.start hx S
    exact ⟨fun i hi => (crF_lo x hi).trans (h0.crowd i hi), h0.cap, h0.left0, h0.left_.trans (by rw [sumN_congr fun i hi => (crF_lo x hi).symm]; rfl), h0.stable⟩
  clear hA hx hi0 hi1 hi2 hi3 hu
  simp only [Prk.val]
  generalize hal : x.alo = al at *
  generalize hah : x.ahi = ah at *
  have HAL := Lib.hid hal
  have HAH := Lib.hid hah
  clear hal hah
  have HCP : Hid (∀ W, Below (w.heap.size + 1) (w.alloc (.cells #[.slice A x.sp.length c, I al, I ah] 26)) W → W.cell? ⟨w.heap.size, 0, none⟩ = some (.slice A x.sp.length c) ∧ Below w.heap.size w W) := Lib.hid fun W hW =>
    ⟨(hW.cell (p := ⟨_, _, none⟩) (by simp)).trans (by simp [go_sem]), (below1 w _).trans (hW.mono (by omega))⟩
  have HIB : Hid (∀ W, Below w.heap.size w W → ∀ k, k < x.sp.length → ∃ ab ao, A = some ⟨ab, ao, none⟩ ∧ ab < w.heap.size ∧ W.cell? ⟨ab, ao + k * 4, none⟩ = some (I (x.lo k)) ∧ W.cell? ⟨ab, ao + k * 4 + 1, none⟩ = some (I (x.hi k)) ∧ W.cell? ⟨ab, ao + k * 4 + 2, none⟩ = some (I (x.ho k)) ∧ W.cell? ⟨ab, ao + k * 4 + 3, none⟩ = some (I (x.ne k))) := Lib.hid fun W hW k hk => by
    obtain ⟨ab, ao, hAe, haz, hac⟩ := (HA.out.below hW) (by omega)
    obtain ⟨a0, a1, a2, a3⟩ := hac k hk
    obtain ⟨e0, e1, e2, e3⟩ := HLO.out k hk
    rw [e0] at a0
    rw [e1] at a1
    rw [e2] at a2
    rw [e3] at a3
    exact ⟨ab, ao, hAe, haz, a0, a1, a2, a3⟩
  have hsz : (w.alloc (.cells #[.slice A x.sp.length c, I al, I ah] 26)).heap.size = w.heap.size + 1 := by simp
  go_enter Try.func23, Try.ntmps23
  go_wp2_with (fail)
  go_quiet (fail)
  go_wp2_with (fail)
  generalize hwz0 : w.alloc (.cells #[.slice A x.sp.length c, I al, I ah] 26) = wa at *
  clear hwz0
  go_loopw [5, 6, 7, 8] (fun s5 s6 s7 s8 wr => ∃ (k : Nat) (v5 : Value), k ≤ x.sp.length ∧ s8 = I k ∧ s6 = I (ah - sumN x.lo k) ∧ s7 = I (al - sumN x.lo k) ∧ v5 = s5 ∧ Below (w.heap.size + 1) wa wr ∧ Hid (wr.ownsRow (w.heap.size + 1) 3 1 v5 k ((loL x k).map I))) (fun _ _ _ s _ => x.sp.length - (intOf s).toNat)
  case atStart => exact ⟨0, _, by omega, rfl, by simp [sumN], by simp [sumN], rfl, below_drewN (Below.refl _ _) _, Lib.hid (by simpa [loL] using World.ownsRow_nil (wa.drewN nq) (w.heap.size + 1) 3 1)⟩
  case round =>
    obtain ⟨k, v5, hk, rfl, rfl, rfl, rfl, hB, HO⟩ := hrel
    have hzr := hB.size
    obtain ⟨c0, hBw⟩ := HCP.out _ hB
    have hsl := HSL.out k hk
    by_cases hlt : k < x.sp.length
    · obtain ⟨ab, ao, hAe, haz, a0, _⟩ := HIB.out _ hBw k hlt
      subst hAe
      have hsl1 := HSL.out (k + 1) hlt
      have HSK := Lib.hid (HSS.out k)
      have HN : Hid ((loL x (k + 1)).map I = (loL x k).map I ++ [I (x.lo k)]) := Lib.hid (by rw [loL_succ]; simp)
      have p0 : (0 : Int) ≤ (k : Int) := by omega
      have p1 : (k : Int) < (x.sp.length : Int) := by omega
      have hB2 : Below (w.heap.size + 1) wa (wr.alloc (.cells #[I (x.lo k)] 3)) := hB.alloc (by omega) _
      have HO2 := Lib.hid (HO.out.alloc (.cells #[I (x.lo k)] 3))
      have HC2 := Lib.hid (cell_one3 wr (I (x.lo k)) 3)
      have hlk : sumN x.lo k + x.lo k ≤ 6291456 := by rw [← HSK.out]; exact hsl1.2
      have hlk0 : 0 ≤ sumN x.lo k + x.lo k := by rw [← HSK.out]; exact hsl1.1
      have HE1 : Hid (ah - sumN x.lo (k + 1) = ah - sumN x.lo k - x.lo k) := Lib.hid (by rw [HSK.out]; omega)
      have HE2 : Hid (al - sumN x.lo (k + 1) = al - sumN x.lo k - x.lo k) := Lib.hid (by rw [HSK.out]; omega)
      have hpl := HX.out.peo k hlt
      have hpl0 : 0 ≤ x.lo k := hpl.1
      have hpl1 : x.lo k ≤ 1048576 := by omega
      clear hpl hsl1 HSK
      generalize x.lo k = v at *
      generalize sumN x.lo k = s at *
      go_wp2_with (first
        | (at_builtin; refine wpList_append_own _ rfl _ _ 27 rfl (w.heap.size + 1) 3 i0 (.int .i64 0) 1 8 HU.out HI0.out HI1.out HI2.out HI3.out rfl (by decide) _ _ _ rfl HO2.out ⟨wr.heap.size, 0, none⟩ 1 1 [I v] rfl rfl HC2.out (by simp [Value.oneCell']) (by unfold maxLen; omega) (by omega) (by simp; omega) ?_; intro v' w2 hown' hgrow _; have HO1 : Hid (w2.ownsRow (w.heap.size + 1) 3 1 v' (k + 1) ((loL x (k + 1)).map I)) := Lib.hid (by rw [HN.out]; exact hown'); have hB3 : Below (w.heap.size + 1) wa w2 := hB2.grown hgrow (by have := hB2.size; omega) (fun g e => (HO.out.lt g e).1); clear hown' hgrow; (obtain ⟨g, cap, hg, hgb, hgz, hgc, hgm⟩ : ∃ g cap, v' = .slice (some ⟨g, 0, none⟩) (k + 1) cap ∧ w.heap.size + 1 ≤ g ∧ g < w2.heap.size ∧ k + 1 ≤ cap ∧ cap ≤ 9223372036854775807 := (by rcases own_form HO1.out with ⟨_, h⟩ | h; exact absurd h (by omega); exact h)); subst hg; have r0 : w2.cell? ⟨g, k, none⟩ = some (I v) := (by rw [HO1.out.cellAt k (by omega), HN.out, List.getElem?_append_right (by simp [loL_len])]; simp [loL_len]))
        | fail)
      go_roundw
      case rel => exact ⟨k + 1, _, by omega, by go_num, by rw [HE1.out], by rw [HE2.out], rfl, hB3, HO1⟩
      case measure => first | (simp [intOf]; done) | (simp [intOf]; omega)
    · obtain rfl : k = x.sp.length := by omega
      have HWS : Hid (∃ cl : List Int, cl.length = x.sp.length ∧ loL x x.sp.length = cl ∧ Worst1 x S (fun _ => 0) (crF cl) (ah - sumN x.lo x.sp.length) ∧ al - sumN x.lo x.sp.length = ah - sumN x.lo x.sp.length + (al - ah)) := Lib.hid ⟨_, loL_len x _, rfl, HW1.out _ rfl, by omega⟩
      obtain ⟨cl0, hcl0, hcle, hw1, hla⟩ := HWS.out
      rw [hcle] at HO
      rw [hla]
      have HW0 := Lib.hid hw1
      obtain ⟨hlb, _⟩ := worst1_bd HX.out hw1
      obtain ⟨gA, gc, rfl⟩ : ∃ gA gc, v5 = .slice gA x.sp.length gc := by
        rcases own_form HO.out with ⟨h1, h2⟩ | ⟨g, cap, h1, _⟩
        · exact ⟨none, 0, by rw [h1, h2]⟩
        · exact ⟨_, _, h1⟩
      have HGF : Hid (0 < x.sp.length → ∃ g, gA = some ⟨g, 0, none⟩ ∧ w.heap.size + 1 ≤ g ∧ g < wr.heap.size) := Lib.hid fun h0 => by
        rcases own_form HO.out with ⟨_, h⟩ | ⟨g, cap, h1, h2, h3, _⟩
        · omega
        · injection h1 with h4 _ _
          exact ⟨g, h4, h2, h3⟩
      clear hla hcle HW1 HWS hw1
      generalize ah - sumN x.lo x.sp.length = lf0 at *
      generalize wr = w0 at *
      have hzw0 := hzr
      go_wp2_with (fail)
      go_loopw [6, 7] (fun s6 s7 wr => ∃ (e : Nat → Int) (cl : List Int) (left : Int), cl.length = x.sp.length ∧ s6 = I left ∧ s7 = I (left + (al - ah)) ∧ Below (w.heap.size + 1) wa wr ∧ w0.heap.size ≤ wr.heap.size ∧ Hid (Worst1 x S e (crF cl) left) ∧ Hid (wr.ownsRow (w.heap.size + 1) 3 1 (.slice gA x.sp.length gc) x.sp.length (cl.map I))) (fun s _ _ => (intOf s).toNat)
      case atStart => exact ⟨_, cl0, lf0, hcl0, rfl, rfl, hB, Nat.le_refl _, HW0, HO⟩
      case round =>
        clear HW0 HO hlb hB hBw c0 hsl
        obtain ⟨e, cl, left, hcl, rfl, rfl, hB, hz0, HWo, HO⟩ := hrel
        obtain ⟨hlb, hcb⟩ := worst1_bd HX.out HWo.out
        have HCB := Lib.hid hcb
        have hzo := hB.size
        clear hcb
        generalize wr = wo at *
        go_wp2_with (fail)
        go_loopw [9, 10, 11] (fun s9 s10 s11 wr => ∃ (i : Nat) (b st : Int), i ≤ x.sp.length ∧ s11 = I i ∧ s9 = I b ∧ s10 = I st ∧ Below wo.heap.size wo wr ∧ Hid (BestTo x S (crF cl) left i b st)) (fun _ _ s _ => x.sp.length - (intOf s).toNat)
        case atStart => exact ⟨0, -1, 0, by omega, rfl, rfl, rfl, Below.refl _ _, Lib.hid BestTo.start⟩
        case round =>
          obtain ⟨i, bi, st, hi, rfl, rfl, rfl, hBi, HBT⟩ := hrel
          obtain ⟨hb0, hb1, hs0, hs1⟩ := HBT.out.bd HX.out hi
          have hzi := hBi.size
          obtain ⟨c0, hBw⟩ := HCP.out _ (hB.trans (hBi.mono (by omega)))
          by_cases hlt : i < x.sp.length
          · obtain ⟨g, hg, hgb, hgz⟩ := HGF.out (by omega)
            subst hg
            obtain ⟨ab, ao, hAe, haz, a0, a1, a2, a3⟩ := HIB.out _ hBw i hlt
            subst hAe
            have l0 := (hBi.cell (p := ⟨g, i, none⟩) (show g < _ by omega)).trans (row_at HO.out hlt hcl).1
            have hci := HCB.out i hlt
            have hpk := HX.out.peo i hlt
            obtain ⟨ho1, ho2⟩ := HX.out.hold i hlt
            have hnx := next_bd (c := crF cl) HX.out hlt
            have HNX : Hid (need1 (x.ho i) (crF cl i) * x.ho i + 1 - crF cl i = nextS x (crF cl) i) := Lib.hid rfl
            have HSK : Hid (¬ (S.testBit i = true ∧ nextS x (crF cl) i ≤ left ∧ crF cl i + nextS x (crF cl) i ≤ x.hi i) → BestTo x S (crF cl) left (i + 1) bi st) := Lib.hid HBT.out.skip
            have HKP : Hid (¬ bi < 0 → ¬ nextS x (crF cl) i < st → BestTo x S (crF cl) left (i + 1) bi st) := Lib.hid HBT.out.keep
            have HTK : Hid ((S.testBit i = true ∧ nextS x (crF cl) i ≤ left ∧ crF cl i + nextS x (crF cl) i ≤ x.hi i) → (bi < 0 ∨ nextS x (crF cl) i < st) → BestTo x S (crF cl) left (i + 1) i (nextS x (crF cl) i)) := Lib.hid HBT.out.take_
            have hnb := need1_bd (h := x.ho i) (p := crF cl i) ho1 (by omega)
            have H25 : Hid (∀ W : World, Calls Try.prog 25 #[.agg #[I (x.lo i), I (x.hi i), I (x.ho i), I (x.ne i)], I (crF cl i)] W fun e w' => e = .returned (I (need1 (x.ho i) (crF cl i))) ∧ Below W.heap.size W w') := Lib.hid fun W => of25 _ _ _ _ _ W ho1 ho2 (by omega) (by omega)
            have HBK : Hid (∀ W : World, Calls Try.prog 24 #[I S, I i] W fun e w' => e = .returned (.bool (S.testBit i)) ∧ W = w') := Lib.hid fun W => HB24.out i W (by omega)
            obtain ⟨Q, hQ⟩ : ∃ Q, Q = BestTo x S (crF cl) left (i + 1) := ⟨_, rfl⟩
            have HQ := Lib.hid hQ
            rw [← hQ] at HSK HKP HTK
            clear hQ HBT
            generalize nextS x (crF cl) i = nn at *
            generalize need1 (x.ho i) (crF cl i) = q at *
            obtain ⟨v, hv⟩ : ∃ v, crF cl i = v := ⟨_, rfl⟩
            rw [hv] at l0 hci HNX HSK HTK hnb H25
            clear hv
            generalize x.lo i = lo at *
            generalize x.hi i = hi at *
            generalize x.ho i = ho at *
            generalize x.ne i = ne at *
            obtain ⟨bt, hbt⟩ : ∃ b, S.testBit i = b := ⟨_, rfl⟩
            rw [hbt] at HSK HTK HBK
            clear hbt
            have p0 : (0 : Int) ≤ (i : Int) := by omega
            have p1 : (i : Int) < (x.sp.length : Int) := by omega
            obtain ⟨pr, hpr⟩ : ∃ pr, q * ho = pr := ⟨_, rfl⟩
            have hnn := HNX.out
            rw [hpr] at hnn
            have hwm : IntKind.i64.wrap (q * ho) = pr := by rw [hpr]; exact IntWalk.i64_in _ (by omega)
            have hwa : IntKind.i64.wrap (pr + 1) = pr + 1 := IntWalk.i64_in _ (by omega)
            have hws : IntKind.i64.wrap nn = nn := IntWalk.i64_in _ (by omega)
            have hwv : IntKind.i64.wrap (v + nn) = v + nn := IntWalk.i64_in _ (by omega)
            have HPR := Lib.hid hpr
            clear hpr
            have HBa : Hid (Below wr.heap.size wr (wr.alloc (.cells #[I lo, I hi, I ho, I ne] 48))) := Lib.hid (below1 _ _)
            have HXa : Hid (Box (wr.alloc (.cells #[I lo, I hi, I ho, I ne] 48)) wr.heap.size [I lo, I hi, I ho, I ne]) := Lib.hid (Box.new wr [I lo, I hi, I ho, I ne] 48)
            go_wp2_with (fail)
            clear a0 a1 a2 a3 c0
            obtain ⟨T5, hT5⟩ : ∃ T5, T5 = wr.heap.size := ⟨_, rfl⟩
            rw [← hT5] at HXa HBa ⊢
            have hT5z : T5 < (wr.alloc (.cells #[I lo, I hi, I ho, I ne] 48)).heap.size := HXa.out.1
            have hBa2 : Below wo.heap.size wo (wr.alloc (.cells #[I lo, I hi, I ho, I ne] 48)) := hBi.alloc (by omega) _
            have HL0 : Hid ((wr.alloc (.cells #[I lo, I hi, I ho, I ne] 48)).cell? ⟨g, i, none⟩ = some (I v)) := Lib.hid ((HBa.out.cell (p := ⟨g, i, none⟩) (show g < _ by omega)).trans l0)
            have hgb' : g < (wr.alloc (.cells #[I lo, I hi, I ho, I ne] 48)).heap.size := by have := hBa2.size; omega
            clear hT5 l0
            generalize wr.alloc (.cells #[I lo, I hi, I ho, I ne] 48) = wb at *
            have HCX : Hid (∀ W, Below wb.heap.size wb W → W.cell? ⟨T5, 0, none⟩ = some (I lo) ∧ W.cell? ⟨T5, 1, none⟩ = some (I hi) ∧ W.cell? ⟨T5, 2, none⟩ = some (I ho) ∧ W.cell? ⟨T5, 3, none⟩ = some (I ne) ∧ W.cell? ⟨g, i, none⟩ = some (I v)) := Lib.hid fun W hW =>
              ⟨((HXa.out.call hW).at_ 0 _ rfl).1, ((HXa.out.call hW).at_ 1 _ rfl).1, ((HXa.out.call hW).at_ 2 _ rfl).1, ((HXa.out.call hW).at_ 3 _ rfl).1, (hW.cell (p := ⟨g, i, none⟩) hgb').trans HL0.out⟩
            refine (wpIn_wide (n := 9)).1 ?_
            refine wpIn_region_valsB [some 64, some 65, some 66, some 67, some 68, some 69, some 70, some 71, some 72, some 73, some 74, some 75, some 76, some 77, some 78, some 13]
              (nthV [.agg #[I lo, I hi, I ho, I ne], .slice (some ⟨g, 0, none⟩) x.sp.length gc, I i, .pointer (some ⟨g, i, none⟩), I v, I q, .pointer (some ⟨T5, 2, none⟩), I ho, I pr, I (pr + 1), .slice (some ⟨g, 0, none⟩) x.sp.length gc, I i, .pointer (some ⟨g, i, none⟩), I v, I nn, I nn])
              [(12, .pointer (some ⟨T5, 0, none⟩)), (5, .slice (some ⟨g, 0, none⟩) x.sp.length gc), (11, I i)]
              (fun W => Below wb.heap.size wb W) rfl (by kernel_rfl) (fun _ => trivial) (by kernel_rfl) (by kernel_rfl) (by kernel_rfl) ⟨rfl, rfl, rfl, trivial⟩ (fun _ d _ _ _ h => by cases d <;> exact h) (Below.refl _ _).drew ?_ ?_
            · refine ⟨?_, ?_, ?_, ?_, ?_, ?_, ?_, ?_, ?_, ?_, ?_, ?_, ?_, ?_, ?_, ?_, trivial⟩
              all_goals (intro x0 W hC; obtain ⟨n0, n1, n2, n3, n4⟩ := HCX.out _ hC)
              all_goals first
                | (refine e_no rfl ?_; rfl)
                | (refine e_yes rfl ?_; intro b e hb K hK)
              all_goals first
                | (refine opE_li rfl hb ?_; simp only [execOp, resolve, Oper.about, envB, lookB, lookV, nthV, List.map_toArray, List.map_cons, List.map_nil, Nat.reduceEqDiff, reduceIte, Nat.succ_ne_zero, Nat.zero_ne_one, Nat.one_ne_zero, Nat.reduceAdd, Nat.zero_add]; go_simp; exact hK _ hC)
                | (refine opE_call rfl hb (fun _ => trivial) (fun h => (by cases h)) 25 #[.agg #[I lo, I hi, I ho, I ne], I v] ?_ ?_
                   · (simp only [execOp, resolve, Oper.about, envB, lookB, lookV, nthV, List.map_toArray, List.map_cons, List.map_nil, Nat.reduceEqDiff, reduceIte, Nat.succ_ne_zero, Nat.zero_ne_one, Nat.one_ne_zero, Nat.reduceAdd, Nat.zero_add])
                     go_simp
                   · refine callsIn_wide.2 ((H25.out _).mono ?_)
                     rintro e w6 ⟨rfl, hB6⟩
                     exact ⟨_, rfl, hK _ (hC.trans (hB6.mono hC.size))⟩)
            · (intro W hC; have HC := Lib.hid hC; clear hC; simp only [putD, nthV, Act.put, List.setIfInBounds_toArray, List.set_cons_succ, List.set_cons_zero, Nat.zero_add, Nat.reduceAdd])
              have hCo := HC.out
              clear HC H25
              go_wp2_with (fail)
              cases bt
              · have HF : Hid (Q bi st) := Lib.hid (HSK.out (by simp))
                rw [HQ.out] at HF
                clear HSK HKP HTK HQ
                refine (wpIn_wide (n := 9)).1 ?_
                refine wpIn_region_valsB [some 79, some 80, some 81, some 82, some 83, some 84, some 85, some 86, some 87, some 88, some 89, some 90, some 91, some 92, some 93, some 94, some 95, some 96, some 97, some 98, some 99, some 100, some 101, some 102, some 103, some 104, some 105, some 106, some 107]
                  (nthV [I S, I i, .bool false, .bool false, undef, undef, undef, .bool false, .bool false, undef, undef, undef, undef, undef, undef, undef, undef, undef, undef, .bool false, .bool false, undef, undef, undef, undef, undef, undef, undef, .bool false])
                  [(12, .pointer (some ⟨T5, 0, none⟩)), (5, .slice (some ⟨g, 0, none⟩) x.sp.length gc), (11, I i), (1, I S), (13, I nn), (6, I left), (9, I bi), (10, I st)]
                  (fun W => Below wb.heap.size wb W) rfl (by kernel_rfl) (fun _ => trivial) (by kernel_rfl) (by kernel_rfl) (by kernel_rfl) ⟨rfl, rfl, rfl, rfl, rfl, rfl, rfl, rfl, trivial⟩ (fun _ d _ _ _ h => by cases d <;> exact h) hCo.drew ?_ ?_
                · refine ⟨?_, ?_, ?_, ?_, ?_, ?_, ?_, ?_, ?_, ?_, ?_, ?_, ?_, ?_, ?_, ?_, ?_, ?_, ?_, ?_, ?_, ?_, ?_, ?_, ?_, ?_, ?_, ?_, ?_, trivial⟩
                  all_goals (intro x0 W hC; obtain ⟨n0, n1, n2, n3, n4⟩ := HCX.out _ hC)
                  all_goals first
                    | (refine e_no rfl ?_; rfl)
                    | (refine e_yes rfl ?_; intro b e hb K hK)
                  all_goals first
                    | (refine opE_li rfl hb ?_; simp only [execOp, resolve, Oper.about, envB, lookB, lookV, nthV, List.map_toArray, List.map_cons, List.map_nil, Nat.reduceEqDiff, reduceIte, Nat.succ_ne_zero, Nat.zero_ne_one, Nat.one_ne_zero, Nat.reduceAdd, Nat.zero_add]; go_simp; exact hK _ hC)
                    | (refine opE_call rfl hb (fun _ => trivial) (fun h => (by cases h)) 24 #[I S, I i] ?_ ?_
                       · (simp only [execOp, resolve, Oper.about, envB, lookB, lookV, nthV, List.map_toArray, List.map_cons, List.map_nil, Nat.reduceEqDiff, reduceIte, Nat.succ_ne_zero, Nat.zero_ne_one, Nat.one_ne_zero, Nat.reduceAdd, Nat.zero_add])
                         go_simp
                       · refine callsIn_wide.2 ((HBK.out _).mono ?_)
                         rintro e w6 ⟨rfl, rfl⟩
                         exact ⟨_, rfl, hK _ hC⟩)
                · (intro W hC; have HC := Lib.hid hC; clear hC; simp only [putD, nthV, Act.put, List.setIfInBounds_toArray, List.set_cons_succ, List.set_cons_zero, Nat.zero_add, Nat.reduceAdd])
                  have hBx := HC.out
                  clear HC
                  have hB2 : Below wo.heap.size wo W := hBa2.trans (hBx.mono hBa2.size)
                  go_wp2_with (fail)
                  go_roundw
                  case rel => first | exact ⟨i + 1, bi, st, by omega, by go_num, rfl, rfl, hB2, HF⟩ | ((repeat apply Exists.intro); refine ⟨?_, rfl⟩; exact ⟨i + 1, bi, st, by omega, by go_num, rfl, rfl, hB2, HF⟩)
                  case measure => first | (simp [intOf]; done) | (simp [intOf]; omega)
              · by_cases h1 : nn ≤ left
                · have h1d : decide (nn ≤ left) = true := decide_eq_true h1
                  by_cases h2 : v + nn ≤ hi
                  · have h2d : decide (v + nn ≤ hi) = true := decide_eq_true h2
                    by_cases h3 : bi < 0
                    · have h3d : decide (bi < 0) = true := decide_eq_true h3
                      have HF : Hid (Q i nn) := Lib.hid (HTK.out ⟨rfl, by omega, by omega⟩ (by omega))
                      rw [HQ.out] at HF
                      clear HSK HKP HTK HQ
                      refine (wpIn_wide (n := 9)).1 ?_
                      refine wpIn_region_valsB [some 79, some 80, some 81, some 82, some 83, some 84, some 85, some 86, some 87, some 88, some 89, some 90, some 91, some 92, some 93, some 94, some 95, some 96, some 97, some 98, some 99, some 100, some 101, some 102, some 103, some 104, some 105, some 106, some 107]
                        (nthV [I S, I i, .bool true, .bool true, I nn, I left, .bool true, .bool true, .bool true, .slice (some ⟨g, 0, none⟩) x.sp.length gc, I i, .pointer (some ⟨g, i, none⟩), I v, I nn, I (v + nn), .pointer (some ⟨T5, 0, none⟩), .pointer (some ⟨T5, 1, none⟩), I hi, .bool true, .bool true, .bool true, I bi, .bool true, .bool true, undef, undef, undef, .bool true, .bool true])
                        [(12, .pointer (some ⟨T5, 0, none⟩)), (5, .slice (some ⟨g, 0, none⟩) x.sp.length gc), (11, I i), (1, I S), (13, I nn), (6, I left), (9, I bi), (10, I st)]
                        (fun W => Below wb.heap.size wb W) rfl (by kernel_rfl) (fun _ => trivial) (by kernel_rfl) (by kernel_rfl) (by kernel_rfl) ⟨rfl, rfl, rfl, rfl, rfl, rfl, rfl, rfl, trivial⟩ (fun _ d _ _ _ h => by cases d <;> exact h) hCo.drew ?_ ?_
                      · refine ⟨?_, ?_, ?_, ?_, ?_, ?_, ?_, ?_, ?_, ?_, ?_, ?_, ?_, ?_, ?_, ?_, ?_, ?_, ?_, ?_, ?_, ?_, ?_, ?_, ?_, ?_, ?_, ?_, ?_, trivial⟩
                        all_goals (intro x0 W hC; obtain ⟨n0, n1, n2, n3, n4⟩ := HCX.out _ hC)
                        all_goals first
                          | (refine e_no rfl ?_; rfl)
                          | (refine e_yes rfl ?_; intro b e hb K hK)
                        all_goals first
                          | (refine opE_li rfl hb ?_; simp only [execOp, resolve, Oper.about, envB, lookB, lookV, nthV, List.map_toArray, List.map_cons, List.map_nil, Nat.reduceEqDiff, reduceIte, Nat.succ_ne_zero, Nat.zero_ne_one, Nat.one_ne_zero, Nat.reduceAdd, Nat.zero_add]; go_simp; exact hK _ hC)
                          | (refine opE_call rfl hb (fun _ => trivial) (fun h => (by cases h)) 24 #[I S, I i] ?_ ?_
                             · (simp only [execOp, resolve, Oper.about, envB, lookB, lookV, nthV, List.map_toArray, List.map_cons, List.map_nil, Nat.reduceEqDiff, reduceIte, Nat.succ_ne_zero, Nat.zero_ne_one, Nat.one_ne_zero, Nat.reduceAdd, Nat.zero_add])
                               go_simp
                             · refine callsIn_wide.2 ((HBK.out _).mono ?_)
                               rintro e w6 ⟨rfl, rfl⟩
                               exact ⟨_, rfl, hK _ hC⟩)
                      · (intro W hC; have HC := Lib.hid hC; clear hC; simp only [putD, nthV, Act.put, List.setIfInBounds_toArray, List.set_cons_succ, List.set_cons_zero, Nat.zero_add, Nat.reduceAdd])
                        have hBx := HC.out
                        clear HC
                        have hB2 : Below wo.heap.size wo W := hBa2.trans (hBx.mono hBa2.size)
                        go_wp2_with (fail)
                        go_roundw
                        case rel => first | exact ⟨i + 1, (i : Int), nn, by omega, by go_num, rfl, rfl, hB2, HF⟩ | ((repeat apply Exists.intro); refine ⟨?_, rfl⟩; exact ⟨i + 1, (i : Int), nn, by omega, by go_num, rfl, rfl, hB2, HF⟩)
                        case measure => first | (simp [intOf]; done) | (simp [intOf]; omega)
                    · have h3d : decide (bi < 0) = false := decide_eq_false h3
                      by_cases h4 : nn < st
                      · have h4d : decide (nn < st) = true := decide_eq_true h4
                        have HF : Hid (Q i nn) := Lib.hid (HTK.out ⟨rfl, by omega, by omega⟩ (by omega))
                        rw [HQ.out] at HF
                        clear HSK HKP HTK HQ
                        refine (wpIn_wide (n := 9)).1 ?_
                        refine wpIn_region_valsB [some 79, some 80, some 81, some 82, some 83, some 84, some 85, some 86, some 87, some 88, some 89, some 90, some 91, some 92, some 93, some 94, some 95, some 96, some 97, some 98, some 99, some 100, some 101, some 102, some 103, some 104, some 105, some 106, some 107]
                          (nthV [I S, I i, .bool true, .bool true, I nn, I left, .bool true, .bool true, .bool true, .slice (some ⟨g, 0, none⟩) x.sp.length gc, I i, .pointer (some ⟨g, i, none⟩), I v, I nn, I (v + nn), .pointer (some ⟨T5, 0, none⟩), .pointer (some ⟨T5, 1, none⟩), I hi, .bool true, .bool true, .bool true, I bi, .bool false, .bool false, I nn, I st, .bool true, .bool true, .bool true])
                          [(12, .pointer (some ⟨T5, 0, none⟩)), (5, .slice (some ⟨g, 0, none⟩) x.sp.length gc), (11, I i), (1, I S), (13, I nn), (6, I left), (9, I bi), (10, I st)]
                          (fun W => Below wb.heap.size wb W) rfl (by kernel_rfl) (fun _ => trivial) (by kernel_rfl) (by kernel_rfl) (by kernel_rfl) ⟨rfl, rfl, rfl, rfl, rfl, rfl, rfl, rfl, trivial⟩ (fun _ d _ _ _ h => by cases d <;> exact h) hCo.drew ?_ ?_
                        · refine ⟨?_, ?_, ?_, ?_, ?_, ?_, ?_, ?_, ?_, ?_, ?_, ?_, ?_, ?_, ?_, ?_, ?_, ?_, ?_, ?_, ?_, ?_, ?_, ?_, ?_, ?_, ?_, ?_, ?_, trivial⟩
                          all_goals (intro x0 W hC; obtain ⟨n0, n1, n2, n3, n4⟩ := HCX.out _ hC)
                          all_goals first
                            | (refine e_no rfl ?_; rfl)
                            | (refine e_yes rfl ?_; intro b e hb K hK)
                          all_goals first
                            | (refine opE_li rfl hb ?_; simp only [execOp, resolve, Oper.about, envB, lookB, lookV, nthV, List.map_toArray, List.map_cons, List.map_nil, Nat.reduceEqDiff, reduceIte, Nat.succ_ne_zero, Nat.zero_ne_one, Nat.one_ne_zero, Nat.reduceAdd, Nat.zero_add]; go_simp; exact hK _ hC)
                            | (refine opE_call rfl hb (fun _ => trivial) (fun h => (by cases h)) 24 #[I S, I i] ?_ ?_
                               · (simp only [execOp, resolve, Oper.about, envB, lookB, lookV, nthV, List.map_toArray, List.map_cons, List.map_nil, Nat.reduceEqDiff, reduceIte, Nat.succ_ne_zero, Nat.zero_ne_one, Nat.one_ne_zero, Nat.reduceAdd, Nat.zero_add])
                                 go_simp
                               · refine callsIn_wide.2 ((HBK.out _).mono ?_)
                                 rintro e w6 ⟨rfl, rfl⟩
                                 exact ⟨_, rfl, hK _ hC⟩)
                        · (intro W hC; have HC := Lib.hid hC; clear hC; simp only [putD, nthV, Act.put, List.setIfInBounds_toArray, List.set_cons_succ, List.set_cons_zero, Nat.zero_add, Nat.reduceAdd])
                          have hBx := HC.out
                          clear HC
                          have hB2 : Below wo.heap.size wo W := hBa2.trans (hBx.mono hBa2.size)
                          go_wp2_with (fail)
                          go_roundw
                          case rel => first | exact ⟨i + 1, (i : Int), nn, by omega, by go_num, rfl, rfl, hB2, HF⟩ | ((repeat apply Exists.intro); refine ⟨?_, rfl⟩; exact ⟨i + 1, (i : Int), nn, by omega, by go_num, rfl, rfl, hB2, HF⟩)
                          case measure => first | (simp [intOf]; done) | (simp [intOf]; omega)
                      · have h4d : decide (nn < st) = false := decide_eq_false h4
                        have HF : Hid (Q bi st) := Lib.hid (HKP.out (by omega) (by omega))
                        rw [HQ.out] at HF
                        clear HSK HKP HTK HQ
                        refine (wpIn_wide (n := 9)).1 ?_
                        refine wpIn_region_valsB [some 79, some 80, some 81, some 82, some 83, some 84, some 85, some 86, some 87, some 88, some 89, some 90, some 91, some 92, some 93, some 94, some 95, some 96, some 97, some 98, some 99, some 100, some 101, some 102, some 103, some 104, some 105, some 106, some 107]
                          (nthV [I S, I i, .bool true, .bool true, I nn, I left, .bool true, .bool true, .bool true, .slice (some ⟨g, 0, none⟩) x.sp.length gc, I i, .pointer (some ⟨g, i, none⟩), I v, I nn, I (v + nn), .pointer (some ⟨T5, 0, none⟩), .pointer (some ⟨T5, 1, none⟩), I hi, .bool true, .bool true, .bool true, I bi, .bool false, .bool false, I nn, I st, .bool false, .bool false, .bool false])
                          [(12, .pointer (some ⟨T5, 0, none⟩)), (5, .slice (some ⟨g, 0, none⟩) x.sp.length gc), (11, I i), (1, I S), (13, I nn), (6, I left), (9, I bi), (10, I st)]
                          (fun W => Below wb.heap.size wb W) rfl (by kernel_rfl) (fun _ => trivial) (by kernel_rfl) (by kernel_rfl) (by kernel_rfl) ⟨rfl, rfl, rfl, rfl, rfl, rfl, rfl, rfl, trivial⟩ (fun _ d _ _ _ h => by cases d <;> exact h) hCo.drew ?_ ?_
                        · refine ⟨?_, ?_, ?_, ?_, ?_, ?_, ?_, ?_, ?_, ?_, ?_, ?_, ?_, ?_, ?_, ?_, ?_, ?_, ?_, ?_, ?_, ?_, ?_, ?_, ?_, ?_, ?_, ?_, ?_, trivial⟩
                          all_goals (intro x0 W hC; obtain ⟨n0, n1, n2, n3, n4⟩ := HCX.out _ hC)
                          all_goals first
                            | (refine e_no rfl ?_; rfl)
                            | (refine e_yes rfl ?_; intro b e hb K hK)
                          all_goals first
                            | (refine opE_li rfl hb ?_; simp only [execOp, resolve, Oper.about, envB, lookB, lookV, nthV, List.map_toArray, List.map_cons, List.map_nil, Nat.reduceEqDiff, reduceIte, Nat.succ_ne_zero, Nat.zero_ne_one, Nat.one_ne_zero, Nat.reduceAdd, Nat.zero_add]; go_simp; exact hK _ hC)
                            | (refine opE_call rfl hb (fun _ => trivial) (fun h => (by cases h)) 24 #[I S, I i] ?_ ?_
                               · (simp only [execOp, resolve, Oper.about, envB, lookB, lookV, nthV, List.map_toArray, List.map_cons, List.map_nil, Nat.reduceEqDiff, reduceIte, Nat.succ_ne_zero, Nat.zero_ne_one, Nat.one_ne_zero, Nat.reduceAdd, Nat.zero_add])
                                 go_simp
                               · refine callsIn_wide.2 ((HBK.out _).mono ?_)
                                 rintro e w6 ⟨rfl, rfl⟩
                                 exact ⟨_, rfl, hK _ hC⟩)
                        · (intro W hC; have HC := Lib.hid hC; clear hC; simp only [putD, nthV, Act.put, List.setIfInBounds_toArray, List.set_cons_succ, List.set_cons_zero, Nat.zero_add, Nat.reduceAdd])
                          have hBx := HC.out
                          clear HC
                          have hB2 : Below wo.heap.size wo W := hBa2.trans (hBx.mono hBa2.size)
                          go_wp2_with (fail)
                          go_roundw
                          case rel => first | exact ⟨i + 1, bi, st, by omega, by go_num, rfl, rfl, hB2, HF⟩ | ((repeat apply Exists.intro); refine ⟨?_, rfl⟩; exact ⟨i + 1, bi, st, by omega, by go_num, rfl, rfl, hB2, HF⟩)
                          case measure => first | (simp [intOf]; done) | (simp [intOf]; omega)
                  · have h2d : decide (v + nn ≤ hi) = false := decide_eq_false h2
                    have HF : Hid (Q bi st) := Lib.hid (HSK.out (by first | (rintro ⟨_, h5, h6⟩; omega) | omega | (simp; done) | (simp; omega)))
                    rw [HQ.out] at HF
                    clear HSK HKP HTK HQ
                    refine (wpIn_wide (n := 9)).1 ?_
                    refine wpIn_region_valsB [some 79, some 80, some 81, some 82, some 83, some 84, some 85, some 86, some 87, some 88, some 89, some 90, some 91, some 92, some 93, some 94, some 95, some 96, some 97, some 98, some 99, some 100, some 101, some 102, some 103, some 104, some 105, some 106, some 107]
                      (nthV [I S, I i, .bool true, .bool true, I nn, I left, .bool true, .bool true, .bool true, .slice (some ⟨g, 0, none⟩) x.sp.length gc, I i, .pointer (some ⟨g, i, none⟩), I v, I nn, I (v + nn), .pointer (some ⟨T5, 0, none⟩), .pointer (some ⟨T5, 1, none⟩), I hi, .bool false, .bool false, .bool false, undef, undef, undef, undef, undef, undef, undef, .bool false])
                      [(12, .pointer (some ⟨T5, 0, none⟩)), (5, .slice (some ⟨g, 0, none⟩) x.sp.length gc), (11, I i), (1, I S), (13, I nn), (6, I left), (9, I bi), (10, I st)]
                      (fun W => Below wb.heap.size wb W) rfl (by kernel_rfl) (fun _ => trivial) (by kernel_rfl) (by kernel_rfl) (by kernel_rfl) ⟨rfl, rfl, rfl, rfl, rfl, rfl, rfl, rfl, trivial⟩ (fun _ d _ _ _ h => by cases d <;> exact h) hCo.drew ?_ ?_
                    · refine ⟨?_, ?_, ?_, ?_, ?_, ?_, ?_, ?_, ?_, ?_, ?_, ?_, ?_, ?_, ?_, ?_, ?_, ?_, ?_, ?_, ?_, ?_, ?_, ?_, ?_, ?_, ?_, ?_, ?_, trivial⟩
                      all_goals (intro x0 W hC; obtain ⟨n0, n1, n2, n3, n4⟩ := HCX.out _ hC)
                      all_goals first
                        | (refine e_no rfl ?_; rfl)
                        | (refine e_yes rfl ?_; intro b e hb K hK)
                      all_goals first
                        | (refine opE_li rfl hb ?_; simp only [execOp, resolve, Oper.about, envB, lookB, lookV, nthV, List.map_toArray, List.map_cons, List.map_nil, Nat.reduceEqDiff, reduceIte, Nat.succ_ne_zero, Nat.zero_ne_one, Nat.one_ne_zero, Nat.reduceAdd, Nat.zero_add]; go_simp; exact hK _ hC)
                        | (refine opE_call rfl hb (fun _ => trivial) (fun h => (by cases h)) 24 #[I S, I i] ?_ ?_
                           · (simp only [execOp, resolve, Oper.about, envB, lookB, lookV, nthV, List.map_toArray, List.map_cons, List.map_nil, Nat.reduceEqDiff, reduceIte, Nat.succ_ne_zero, Nat.zero_ne_one, Nat.one_ne_zero, Nat.reduceAdd, Nat.zero_add])
                             go_simp
                           · refine callsIn_wide.2 ((HBK.out _).mono ?_)
                             rintro e w6 ⟨rfl, rfl⟩
                             exact ⟨_, rfl, hK _ hC⟩)
                    · (intro W hC; have HC := Lib.hid hC; clear hC; simp only [putD, nthV, Act.put, List.setIfInBounds_toArray, List.set_cons_succ, List.set_cons_zero, Nat.zero_add, Nat.reduceAdd])
                      have hBx := HC.out
                      clear HC
                      have hB2 : Below wo.heap.size wo W := hBa2.trans (hBx.mono hBa2.size)
                      go_wp2_with (fail)
                      go_roundw
                      case rel => first | exact ⟨i + 1, bi, st, by omega, by go_num, rfl, rfl, hB2, HF⟩ | ((repeat apply Exists.intro); refine ⟨?_, rfl⟩; exact ⟨i + 1, bi, st, by omega, by go_num, rfl, rfl, hB2, HF⟩)
                      case measure => first | (simp [intOf]; done) | (simp [intOf]; omega)
                · have h1d : decide (nn ≤ left) = false := decide_eq_false h1
                  have HF : Hid (Q bi st) := Lib.hid (HSK.out (by first | (rintro ⟨_, h5, h6⟩; omega) | omega | (simp; done) | (simp; omega)))
                  rw [HQ.out] at HF
                  clear HSK HKP HTK HQ
                  refine (wpIn_wide (n := 9)).1 ?_
                  refine wpIn_region_valsB [some 79, some 80, some 81, some 82, some 83, some 84, some 85, some 86, some 87, some 88, some 89, some 90, some 91, some 92, some 93, some 94, some 95, some 96, some 97, some 98, some 99, some 100, some 101, some 102, some 103, some 104, some 105, some 106, some 107]
                    (nthV [I S, I i, .bool true, .bool true, I nn, I left, .bool false, .bool false, .bool false, undef, undef, undef, undef, undef, undef, undef, undef, undef, undef, .bool false, .bool false, undef, undef, undef, undef, undef, undef, undef, .bool false])
                    [(12, .pointer (some ⟨T5, 0, none⟩)), (5, .slice (some ⟨g, 0, none⟩) x.sp.length gc), (11, I i), (1, I S), (13, I nn), (6, I left), (9, I bi), (10, I st)]
                    (fun W => Below wb.heap.size wb W) rfl (by kernel_rfl) (fun _ => trivial) (by kernel_rfl) (by kernel_rfl) (by kernel_rfl) ⟨rfl, rfl, rfl, rfl, rfl, rfl, rfl, rfl, trivial⟩ (fun _ d _ _ _ h => by cases d <;> exact h) hCo.drew ?_ ?_
                  · refine ⟨?_, ?_, ?_, ?_, ?_, ?_, ?_, ?_, ?_, ?_, ?_, ?_, ?_, ?_, ?_, ?_, ?_, ?_, ?_, ?_, ?_, ?_, ?_, ?_, ?_, ?_, ?_, ?_, ?_, trivial⟩
                    all_goals (intro x0 W hC; obtain ⟨n0, n1, n2, n3, n4⟩ := HCX.out _ hC)
                    all_goals first
                      | (refine e_no rfl ?_; rfl)
                      | (refine e_yes rfl ?_; intro b e hb K hK)
                    all_goals first
                      | (refine opE_li rfl hb ?_; simp only [execOp, resolve, Oper.about, envB, lookB, lookV, nthV, List.map_toArray, List.map_cons, List.map_nil, Nat.reduceEqDiff, reduceIte, Nat.succ_ne_zero, Nat.zero_ne_one, Nat.one_ne_zero, Nat.reduceAdd, Nat.zero_add]; go_simp; exact hK _ hC)
                      | (refine opE_call rfl hb (fun _ => trivial) (fun h => (by cases h)) 24 #[I S, I i] ?_ ?_
                         · (simp only [execOp, resolve, Oper.about, envB, lookB, lookV, nthV, List.map_toArray, List.map_cons, List.map_nil, Nat.reduceEqDiff, reduceIte, Nat.succ_ne_zero, Nat.zero_ne_one, Nat.one_ne_zero, Nat.reduceAdd, Nat.zero_add])
                           go_simp
                         · refine callsIn_wide.2 ((HBK.out _).mono ?_)
                           rintro e w6 ⟨rfl, rfl⟩
                           exact ⟨_, rfl, hK _ hC⟩)
                  · (intro W hC; have HC := Lib.hid hC; clear hC; simp only [putD, nthV, Act.put, List.setIfInBounds_toArray, List.set_cons_succ, List.set_cons_zero, Nat.zero_add, Nat.reduceAdd])
                    have hBx := HC.out
                    clear HC
                    have hB2 : Below wo.heap.size wo W := hBa2.trans (hBx.mono hBa2.size)
                    go_wp2_with (fail)
                    go_roundw
                    case rel => first | exact ⟨i + 1, bi, st, by omega, by go_num, rfl, rfl, hB2, HF⟩ | ((repeat apply Exists.intro); refine ⟨?_, rfl⟩; exact ⟨i + 1, bi, st, by omega, by go_num, rfl, rfl, hB2, HF⟩)
                    case measure => first | (simp [intOf]; done) | (simp [intOf]; omega)
          · obtain rfl : i = x.sp.length := by omega
            by_cases hbn : bi < 0
            · have HNO : Hid (∀ j, j < x.n → ¬ candS x S (crF cl) left j) := Lib.hid (by
                rcases HBT.out with ⟨_, _, h3⟩ | ⟨k, h1, _⟩
                · exact h3
                · omega)
              have HST := Lib.hid (HWo.out.stop HX.out HNO.out)
              have HLK : Hid (left + (al - ah) = x.alo - sumN (crF cl) x.n) := Lib.hid (by rw [HWo.out.left_, HAL.out, HAH.out]; omega)
              have HFK : Hid (FillK x S (crF cl) (crF cl) (left + (al - ah)) 0 0) := Lib.hid (by rw [HLK.out]; exact FillK.start HST.out.1)
              have HOx := Lib.hid (grown_own HO.out hBi)
              have hBx : Below (w.heap.size + 1) wa wr := hB.trans (hBi.mono (by omega))
              have hzx : w0.heap.size ≤ wr.heap.size := by omega
              clear HBT HWo HNO HO HCB HLK hB hBi hBw hzi hzo hb0 hb1 hs0 hs1
              go_wp2_with (fail)
              generalize wr = w2 at *
              go_loopw [7, 14] (fun s7 s14 wr => ∃ (k : Nat) (dl : List Int) (lk : Int), k ≤ 2 ∧ dl.length = x.sp.length ∧ s14 = I k ∧ s7 = I lk ∧ Below (w.heap.size + 1) wa wr ∧ w0.heap.size ≤ wr.heap.size ∧ Hid (FillK x S (crF cl) (crF dl) lk k 0) ∧ Hid (wr.ownsRow (w.heap.size + 1) 3 1 (.slice gA x.sp.length gc) x.sp.length (dl.map I))) (fun _ s _ => 2 - (intOf s).toNat)
              case atStart => exact ⟨0, cl, _, by omega, hcl, rfl, rfl, hBx, hzx, HFK, HOx⟩
              case round =>
                clear HFK HOx hBx hzx
                obtain ⟨k, dl, lk, hk, hdl, rfl, rfl, hB, hz, HF, HO⟩ := hrel
                generalize wr = wo at *
                by_cases hk2 : k < 2
                · have hk2d : decide ((k : Int) < 2) = true := decide_eq_true (by omega)
                  have hk2n : decide (k < 2) = true := decide_eq_true hk2
                  go_wp2_with (fail)
                  go_loopw [7, 15] (fun s7 s15 wr => ∃ (i : Nat) (dl : List Int) (lk : Int), i ≤ x.sp.length ∧ dl.length = x.sp.length ∧ s15 = I i ∧ s7 = I lk ∧ Below (w.heap.size + 1) wa wr ∧ w0.heap.size ≤ wr.heap.size ∧ Hid (FillK x S (crF cl) (crF dl) lk k i) ∧ Hid (wr.ownsRow (w.heap.size + 1) 3 1 (.slice gA x.sp.length gc) x.sp.length (dl.map I))) (fun _ s _ => x.sp.length - (intOf s).toNat)
                  case atStart => exact ⟨0, dl, lk, by omega, hdl, rfl, rfl, hB, hz, HF, HO⟩
                  case round =>
                    clear HF HO hB hz hdl
                    obtain ⟨i, dl, lk, hi, hdl, rfl, rfl, hB, hz, HF, HO⟩ := hrel
                    have hzr := hB.size
                    obtain ⟨c0, hBw⟩ := HCP.out _ hB
                    by_cases hlt : i < x.sp.length
                    · obtain ⟨g, hg, hgb, hgz⟩ := HGF.out (by omega)
                      subst hg
                      obtain ⟨ab, ao, hAe, haz, a0, a1, a2, a3⟩ := HIB.out _ hBw i hlt
                      subst hAe
                      obtain ⟨l0, f0⟩ := row_at HO.out hlt hdl
                      obtain ⟨hd0, hd1, hd2, hd3, hd4⟩ := HF.out.bd HX.out HST.out.1 hlt
                      have HSKP : Hid ((if S.testBit i then 1 else 0) ≠ k → FillK x S (crF cl) (crF dl) lk k (i + 1)) := Lib.hid HF.out.skip
                      have HSTP : Hid (∀ m, m = max 0 (min lk (x.hi i - crF dl i)) → FillK x S (crF cl) (crF (dl.set i (crF dl i + m))) (lk - m) k (i + 1)) := Lib.hid fun m hm => by
                        have := HF.out.step HX.out hlt (d' := crF (dl.set i (crF dl i + m))) (fun j hj => by rw [crF_set (by omega), hm])
                        rwa [← hm] at this
                      have HBK : Hid (∀ W : World, Calls Try.prog 24 #[I S, I i] W fun e w' => e = .returned (.bool (S.testBit i)) ∧ W = w') := Lib.hid fun W => HB24.out i W (by omega)
                      obtain ⟨bt, hbt⟩ : ∃ b, S.testBit i = b := ⟨_, rfl⟩
                      rw [hbt] at HSKP HBK
                      clear hbt
                      have HOS : Hid (∀ m, (wr.setCell ⟨g, i, none⟩ (I (crF dl i + m))).ownsRow (w.heap.size + 1) 3 1 (.slice (some ⟨g, 0, none⟩) x.sp.length gc) x.sp.length ((dl.set i (crF dl i + m)).map I)) := Lib.hid fun m => row_set HO.out i _
                      have HLS : Hid (∀ m : Int, (dl.set i m).length = x.sp.length) := Lib.hid fun m => by rw [List.length_set]; exact hdl
                      generalize x.lo i = lo at *
                      generalize x.hi i = hi at *
                      generalize x.ho i = ho at *
                      generalize x.ne i = ne at *
                      generalize crF dl i = v at *
                      have p0 : (0 : Int) ≤ (i : Int) := by omega
                      have p1 : (i : Int) < (x.sp.length : Int) := by omega
                      by_cases hsame : (bt = decide (k = 1))
                      · obtain ⟨d1, hd1e⟩ : ∃ d1, hi - v = d1 := ⟨_, rfl⟩
                        obtain ⟨m1, hm1e⟩ : ∃ m1, min lk d1 = m1 := ⟨_, rfl⟩
                        obtain ⟨m, hme⟩ : ∃ m, max 0 m1 = m := ⟨_, rfl⟩
                        have hwd : IntKind.i64.wrap d1 = d1 := IntWalk.i64_in _ (by omega)
                        have hmb : 0 ≤ m ∧ m ≤ 1048576 := by omega
                        have HF2 := Lib.hid (HSTP.out m (by rw [← hme, ← hm1e, ← hd1e]))
                        have HO2 := Lib.hid (HOS.out m)
                        have HL2 := Lib.hid (HLS.out (v + m))
                        clear HSTP HOS HLS HSKP HF HO
                        generalize dl.set i (v + m) = dl2 at *
                        have hkk : ((k : Int) == 1) = bt := by rw [hsame]; by_cases h : k = 1 <;> simp [h] <;> omega
                        have hkk' : (k == 1) = bt := by rw [hsame]; by_cases h : k = 1 <;> simp [h]
                        have hkd : decide ((k : Int) = 1) = bt := by rw [hsame]; by_cases h : k = 1 <;> simp [h] <;> omega
                        have HCX : Hid (w.heap.size < w.heap.size + 1) := Lib.hid (by omega)
                        clear hsame
                        have hbb : (bt == bt) = true := by simp
                        go_wp2_with (first
                          | (go_at_call 24; refine (HBK.out _).mono ?_; rintro e w5 ⟨rfl, rfl⟩)
                          | fail)
                        refine (wpIn_wide (n := 9)).1 ?_
                        refine wpIn_region_valsB [some 144, some 145, some 146, some 147, some 148, some 149, some 150, some 151, some 152, some 153, some 154, some 155, some 156, some 157, some 158, some 16]
                          (nthV [I lk, .pointer (some ⟨w.heap.size, 0, none⟩), .slice (some ⟨ab, ao, none⟩) x.sp.length c, I i, .pointer (some ⟨ab, ao + i * 4, none⟩), .pointer (some ⟨ab, ao + i * 4, none⟩), .pointer (some ⟨ab, ao + i * 4 + 1, none⟩), I hi, .slice (some ⟨g, 0, none⟩) x.sp.length gc, I i, .pointer (some ⟨g, i, none⟩), I v, I d1, I m1, I m, I m])
                          [(2, .pointer (some ⟨w.heap.size, 0, none⟩)), (5, .slice (some ⟨g, 0, none⟩) x.sp.length gc), (15, I i), (7, I lk)]
                          (fun W => W = wr.drew) rfl (by kernel_rfl) (fun _ => trivial) (by kernel_rfl) (by kernel_rfl) (by kernel_rfl) ⟨rfl, rfl, rfl, rfl, trivial⟩ (fun _ d _ _ _ h => by cases d <;> exact h) rfl ?_ ?_
                        · refine ⟨?_, ?_, ?_, ?_, ?_, ?_, ?_, ?_, ?_, ?_, ?_, ?_, ?_, ?_, ?_, ?_, trivial⟩
                          all_goals (intro x0 W hC; have hCC := hC; subst hCC)
                          all_goals first
                            | (refine e_no rfl ?_; rfl)
                            | (refine e_yes rfl ?_; intro b e hb K hK)
                          all_goals first
                            | (refine opE_li rfl hb ?_; simp only [execOp, resolve, Oper.about, envB, lookB, lookV, nthV, List.map_toArray, List.map_cons, List.map_nil, Nat.reduceEqDiff, reduceIte, Nat.succ_ne_zero, Nat.zero_ne_one, Nat.one_ne_zero, Nat.reduceAdd, Nat.zero_add]; go_simp; exact hK _ hC)
                        · (intro W hC; have HC := Lib.hid hC; clear hC; simp only [putD, nthV, Act.put, List.setIfInBounds_toArray, List.set_cons_succ, List.set_cons_zero, Nat.zero_add, Nat.reduceAdd])
                          have hCo := HC.out
                          clear HC
                          subst hCo
                          go_wp2_with (fail)
                          have hB2 : Below (w.heap.size + 1) wa (wr.drew.setCell ⟨g, i, none⟩ (I (v + m))) := (Below.drew hB).setCell hgb _
                          go_roundw
                          case rel => first | exact ⟨i + 1, dl2, lk - m, by omega, HL2.out, by go_num, rfl, hB2, by simp; omega, HF2, HO2⟩ | ((repeat apply Exists.intro); refine ⟨?_, rfl⟩; exact ⟨i + 1, dl2, lk - m, by omega, HL2.out, by go_num, rfl, hB2, by simp; omega, HF2, HO2⟩)
                          case measure => first | (simp [intOf]; done) | (simp [intOf]; omega)
                      · have HF2 := Lib.hid (HSKP.out (by
                          intro h
                          apply hsame
                          cases bt
                          · have : k ≠ 1 := by simp at h; omega
                            simp [this]
                          · have : k = 1 := by simp at h; omega
                            simp [this]))
                        obtain ⟨kb, hkb⟩ : ∃ kb, decide (k = 1) = kb := ⟨_, rfl⟩
                        have hkk : ((k : Int) == 1) = kb := by rw [← hkb]; by_cases h : k = 1 <;> simp [h] <;> omega
                        have hkk' : (k == 1) = kb := by rw [← hkb]; by_cases h : k = 1 <;> simp [h]
                        have hkd : decide ((k : Int) = 1) = kb := by rw [← hkb]; by_cases h : k = 1 <;> simp [h] <;> omega
                        rw [hkb] at hsame
                        have hbb : (bt == kb) = false := by cases bt <;> cases kb <;> simp_all
                        clear HSTP HOS HLS HSKP hkb hsame
                        go_wp2_with (first
                          | (go_at_call 24; refine (HBK.out _).mono ?_; rintro e w5 ⟨rfl, rfl⟩)
                          | fail)
                        go_roundw
                        case rel => first | exact ⟨i + 1, dl, lk, by omega, hdl, by go_num, rfl, hB, hz, HF2, HO⟩ | ((repeat apply Exists.intro); refine ⟨?_, rfl⟩; exact ⟨i + 1, dl, lk, by omega, hdl, by go_num, rfl, hB, hz, HF2, HO⟩)
                        case measure => first | (simp [intOf]; done) | (simp [intOf]; omega)
                    · obtain rfl : i = x.sp.length := by omega
                      have HF2 := Lib.hid HF.out.next
                      go_wp2_with (fail)
                      go_roundw
                      case rel => first | exact ⟨k + 1, dl, lk, by omega, hdl, by go_num, rfl, hB, hz, HF2, HO⟩ | ((repeat apply Exists.intro); refine ⟨?_, rfl⟩; exact ⟨k + 1, dl, lk, by omega, hdl, by go_num, rfl, hB, hz, HF2, HO⟩)
                      case measure => first | (simp [intOf]; done) | (simp [intOf]; omega)
                · obtain rfl : k = 2 := by omega
                  have HE := Lib.hid (worst_end HX.out HST.out HF.out)
                  have HIN := Lib.hid (ints_of_own HO.out hdl.symm)
                  obtain ⟨c0, hBw⟩ := HCP.out _ hB
                  clear HF HO
                  go_wp2_with (fail)
                  refine bodyPost_ret (v := .slice gA x.sp.length gc) (by simp [results, Try.results23, go_sem]) rfl ⟨gA, gc, dl, by rw [hdl], HIN.out, hdl, HE.out.1, HE.out.2, hBw⟩
            · obtain ⟨k, hbk, hk, hck, hst, hmin⟩ : ∃ k : Nat, bi = k ∧ k < x.sp.length ∧ candS x S (crF cl) left k ∧ st = nextS x (crF cl) k ∧ ∀ j, j < x.sp.length → candS x S (crF cl) left j → st ≤ nextS x (crF cl) j := by
                rcases HBT.out with ⟨h1, _, _⟩ | h
                · omega
                · exact h
              subst hbk
              obtain ⟨g, hg, hgb, hgz⟩ := HGF.out (by omega)
              subst hg
              have HO1 := Lib.hid (grown_own HO.out hBi)
              obtain ⟨l0, f0⟩ := row_at HO1.out hk hcl
              have HO2 := Lib.hid (row_set HO1.out k (crF cl k + st))
              have HW2 : Hid (Worst1 x S (fun i => if i = k then e k + 1 else e i) (crF (cl.set k (crF cl k + st))) (left - st)) := Lib.hid (by
                have := HWo.out.step HX.out hk hck (fun j hj hc => by rw [← hst]; exact hmin j hj hc) (c' := crF (cl.set k (crF cl k + st))) (fun j hj => by rw [crF_set (by omega), hst])
                rwa [← hst] at this)
              have hstb := next_bd (c := crF cl) HX.out (i := k) hk
              rw [← hst] at hstb
              have hck2 := hck.2.1
              rw [← hst] at hck2
              have hcb := HCB.out k hk
              have hpk := HX.out.peo k hk
              clear hck hmin hst HBT HWo
              have hcl2 : (cl.set k (crF cl k + st)).length = x.sp.length := by rw [List.length_set]; exact hcl
              generalize cl.set k (crF cl k + st) = cl2 at *
              generalize crF cl k = v at *
              have p0 : (0 : Int) ≤ (k : Int) := by omega
              have p1 : (k : Int) < (x.sp.length : Int) := by omega
              go_wp2_with (fail)
              have hB2 : Below (w.heap.size + 1) wa (wr.setCell ⟨g, k, none⟩ (I (v + st))) := (hB.trans (hBi.mono (by omega))).setCell hgb _
              have HE : Hid (left + (al - ah) - st = left - st + (al - ah)) := Lib.hid (by omega)
              go_roundw
              case rel => first | exact ⟨_, cl2, left - st, hcl2, rfl, by rw [← HE.out], hB2, by simp; omega, HW2, HO2⟩ | ((repeat apply Exists.intro); refine ⟨?_, rfl⟩; exact ⟨_, cl2, left - st, hcl2, rfl, by rw [← HE.out], hB2, by simp; omega, HW2, HO2⟩)
              case measure => first | (simp [intOf]; done) | (simp [intOf]; omega)

theorem worst23_is (x : Prk) (A : Option Addr) (c : Nat) (S : Nat) (w : World) (hx : PrkOk x) (hA : Fours w w.heap.size A x.sp) (hS : S < 64) :
    Calls Try.prog 23 #[x.val A c, I S] w fun e w' => ∃ (B : Option Addr) (d : Nat) (cl : List Int), e = .returned (.slice B cl.length d) ∧ Ints w' w'.heap.size B cl ∧ WorstIs x S cl ∧ Below w.heap.size w w' :=
  (worst23 x A c S w hx hA hS).mono fun e w' ⟨B, d, cl, h1, h2, h3, h4, h5, h6⟩ => ⟨B, d, cl, h1, h2, ⟨h3, h4.1, h5⟩, h6⟩
theorem need34 (x : Prk) (A : Option Addr) (c : Nat) (S : Nat) (w : World) (hx : PrkOk x) (hA : Fours w w.heap.size A x.sp) (hS : S < 64) :
    Calls Try.prog 34 #[x.val A c, I S] w fun e w' => e = .returned (I (needV x S)) ∧ Below w.heap.size w w' := need34_of x A c S w hx hA hS fun W hW => worst23_is x A c S W hx hW hS
end Go.Proofs.Ytfebhofihioaoaa
