/- What a set needs, of the document. -/
import Derived.Test.YtfebhofihioaoaaS11
namespace Go.Proofs.Ytfebhofihioaoaa
set_option linter.unusedVariables false
set_option linter.unusedSimpArgs false
open Go Go.RowKit

def needTo (x : Prk) (S : Nat) (c : Nat → Int) (k : Nat) : Int := sumN (fun i => if S.testBit i then need1 (x.ho i) (c i) else 0) k
theorem needTo_bd {x : Prk} (hx : PrkOk x) (S : Nat) {c : Nat → Int} (hc : ∀ i, i < x.n → x.lo i ≤ c i ∧ c i ≤ x.hi i) : ∀ k, k ≤ x.n → 0 ≤ needTo x S c k ∧ needTo x S c k ≤ sumN c k
  | 0, _ => by simp [needTo, sumN]
  | k + 1, h => by
    have ih := needTo_bd hx S hc k (by omega)
    have h2 := hx.peo k (by omega)
    have h3 := hc k (by omega)
    have h4 := need1_bd (h := x.ho k) (p := c k) (hx.hold k (by omega)).1 (by omega)
    unfold needTo at ih ⊢
    simp only [sumN]
    split <;> omega
/-- What the document's worst crowd is. -/
def WorstIs (x : Prk) (S : Nat) (cl : List Int) : Prop := cl.length = x.n ∧ (∀ i, i < x.n → x.lo i ≤ crF cl i ∧ crF cl i ≤ x.hi i) ∧ IsNeed x S (needC x S (crF cl))
set_option maxRecDepth 100000 in
set_option maxHeartbeats 4000000 in
theorem need34_of (x : Prk) (A : Option Addr) (c : Nat) (S : Nat) (w : World) (hx : PrkOk x) (hA : Fours w w.heap.size A x.sp) (hS : S < 64)
    (h23 : ∀ (W : World), Fours W W.heap.size A x.sp → Calls Try.prog 23 #[x.val A c, I S] W fun e w' => ∃ (B : Option Addr) (d : Nat) (cl : List Int), e = .returned (.slice B cl.length d) ∧ Ints w' w'.heap.size B cl ∧ WorstIs x S cl ∧ Below W.heap.size W w') :
    Calls Try.prog 34 #[x.val A c, I S] w fun e w' => e = .returned (I (needV x S)) ∧ Below w.heap.size w w' := by
  have HX := Lib.hid hx
  have hn6 : x.sp.length ≤ 6 := hx.n6
  have HLO : Hid (∀ k (h : k < x.sp.length), x.sp[k].1 = x.lo k ∧ x.sp[k].2.1 = x.hi k ∧ x.sp[k].2.2.1 = x.ho k ∧ x.sp[k].2.2.2 = x.ne k) := Lib.hid fun k h => by simp [Prk.lo, Prk.hi, Prk.ho, Prk.ne, List.getD, h]
  have HB24 : Hid (∀ (i : Nat) (W : World), i < 64 → Calls Try.prog 24 #[I S, I i] W fun e w' => e = .returned (.bool (S.testBit i)) ∧ W = w') := Lib.hid fun i W h => bit24 S i W (by omega) (by omega)
  have HA := Lib.hid hA
  have H23 : Hid (∀ (W : World), Fours W W.heap.size A x.sp → Calls Try.prog 23 #[.agg #[.slice A x.sp.length c, I x.alo, I x.ahi], I S] W fun e w' => ∃ (B : Option Addr) (d : Nat) (cl : List Int), e = .returned (.slice B cl.length d) ∧ Ints w' w'.heap.size B cl ∧ WorstIs x S cl ∧ Below W.heap.size W w') := Lib.hid h23
  clear hA hx h23
  simp only [Prk.val]
  generalize x.alo = al at *
  generalize x.ahi = ah at *
  have HW : Hid (Below w.heap.size w (w.alloc (.cells #[.slice A x.sp.length c, I al, I ah] 26))) := Lib.hid (below1 _ _)
  have HCP : Hid (∀ W, Below (w.heap.size + 1) (w.alloc (.cells #[.slice A x.sp.length c, I al, I ah] 26)) W → W.cell? ⟨w.heap.size, 0, none⟩ = some (.slice A x.sp.length c) ∧ Below w.heap.size w W) := Lib.hid fun W hW =>
    ⟨(hW.cell (p := ⟨_, _, none⟩) (by simp)).trans (by simp [go_sem]), (below1 w _).trans (hW.mono (by omega))⟩
  have HFW : Hid (Fours (w.alloc (.cells #[.slice A x.sp.length c, I al, I ah] 26)) (w.alloc (.cells #[.slice A x.sp.length c, I al, I ah] 26)).heap.size A x.sp) := Lib.hid ((HA.out.below HW.out).more HW.out.size)
  have hsz : (w.alloc (.cells #[.slice A x.sp.length c, I al, I ah] 26)).heap.size = w.heap.size + 1 := by simp
  go_enter Try.func34, Try.ntmps34
  go_wp2_with (first
    | (go_at_call 23; refine (H23.out _ HFW.out).mono ?_; rintro e w1 ⟨B, dd, cl, rfl, hI1, hwi, hB1⟩)
    | fail)
  have HI := Lib.hid hI1
  have hcl : cl.length ≤ 6 := by rw [hwi.1]; exact hn6
  have HCLX : Hid (cl.length = x.sp.length) := Lib.hid hwi.1
  have HNV : Hid (needTo x S (crF cl) cl.length = needV x S) := Lib.hid (by rw [hwi.2.2.val, hwi.1]; rfl)
  have HBD := Lib.hid (needTo_bd HX.out S hwi.2.1)
  have HSB : Hid (∀ k, k ≤ x.sp.length → sumN (crF cl) k ≤ 6291456) := Lib.hid fun k hk => (sum_crowd HX.out hk fun j hj => hwi.2.1 j (Nat.lt_of_lt_of_le hj hk)).2
  have HCC := Lib.hid hwi.2.1
  have HNS : Hid (∀ k, needTo x S (crF cl) (k + 1) = needTo x S (crF cl) k + if S.testBit k then need1 (x.ho k) (crF cl k) else 0) := Lib.hid fun k => rfl
  have HCR : Hid (∀ k (h : k < cl.length), cl[k] = crF cl k) := Lib.hid fun k h => by simp [List.getD, h]
  have HBw : Hid (Below (w.heap.size + 1) (w.alloc (.cells #[.slice A x.sp.length c, I al, I ah] 26)) w1) := Lib.hid (hB1.mono (by omega))
  clear hI1 hwi hB1
  generalize hwz0 : w.alloc (.cells #[.slice A x.sp.length c, I al, I ah] 26) = wa at *
  clear hwz0
  go_loopw [6, 7] (fun s6 s7 wr => ∃ k : Nat, k ≤ cl.length ∧ s7 = I k ∧ s6 = I (needTo x S (crF cl) k) ∧ Below w1.heap.size w1 wr) (fun _ s _ => cl.length - (intOf s).toNat)
  case atStart => exact ⟨0, by omega, rfl, rfl, Below.refl _ _⟩
  case round =>
    obtain ⟨k, hk, rfl, rfl, hB⟩ := hrel
    have hzr := hB.size
    have hz1 := HBw.out.size
    obtain ⟨c0, hBw⟩ := HCP.out _ (HBw.out.trans (hB.mono (by omega)))
    have hsb := HBD.out k (by show k ≤ x.sp.length; have := HCLX.out; omega)
    have hsc := HSB.out k (by have := HCLX.out; omega)
    by_cases hlt : k < cl.length
    · have hkx : k < x.sp.length := by have := HCLX.out; omega
      obtain ⟨lb, lo', hLe, hlz, hlc⟩ := (HI.out.below hB) (by omega)
      subst hLe
      obtain ⟨ab, ao, hAe, haz, hac⟩ := (HA.out.below hBw) (by omega)
      subst hAe
      have l0 := hlc k hlt
      obtain ⟨a0, a1, a2, a3⟩ := hac k hkx
      obtain ⟨e0, e1, e2, e3⟩ := HLO.out k hkx
      rw [e0] at a0
      rw [e1] at a1
      rw [e2] at a2
      rw [e3] at a3
      rw [HCR.out k hlt] at l0
      have HNK := Lib.hid (HNS.out k)
      obtain ⟨ho1, ho2⟩ := HX.out.hold k hkx
      have hpk := HX.out.peo k hkx
      have hck := HCC.out k hkx
      have hnb := need1_bd (h := x.ho k) (p := crF cl k) ho1 (by omega)
      have H25 : Hid (∀ W : World, Calls Try.prog 25 #[.agg #[I (x.lo k), I (x.hi k), I (x.ho k), I (x.ne k)], I (crF cl k)] W fun e w' => e = .returned (I (need1 (x.ho k) (crF cl k))) ∧ Below W.heap.size W w') := Lib.hid fun W => of25 _ _ _ _ _ W ho1 ho2 (by omega) (by omega)
      have HBK : Hid (∀ W : World, Calls Try.prog 24 #[I S, I k] W fun e w' => e = .returned (.bool (S.testBit k)) ∧ W = w') := Lib.hid fun W => HB24.out k W (by omega)
      generalize needTo x S (crF cl) k = s at *
      generalize need1 (x.ho k) (crF cl k) = nn at *
      generalize crF cl k = v at *
      generalize x.lo k = lo at *
      generalize x.hi k = hi at *
      generalize x.ho k = ho at *
      generalize x.ne k = ne at *
      obtain ⟨b, hb⟩ : ∃ b, S.testBit k = b := ⟨_, rfl⟩
      rw [hb] at HNK HBK
      have p0 : (0 : Int) ≤ (k : Int) := by omega
      have p1 : (k : Int) < (cl.length : Int) := by omega
      have p2 : (k : Int) < (x.sp.length : Int) := by omega
      have hwr : IntKind.i64.wrap (s + nn) = s + nn := IntWalk.i64_in _ (by omega)
      clear hb hlc hac e0 e1 e2 e3
      have HCX : Hid (∀ W, Below wr.heap.size wr W → W.cell? ⟨w.heap.size, 0, none⟩ = some (.slice (some ⟨ab, ao, none⟩) x.sp.length c) ∧ W.cell? ⟨ab, ao + k * 4, none⟩ = some (I lo) ∧ W.cell? ⟨ab, ao + k * 4 + 1, none⟩ = some (I hi) ∧ W.cell? ⟨ab, ao + k * 4 + 2, none⟩ = some (I ho) ∧ W.cell? ⟨ab, ao + k * 4 + 3, none⟩ = some (I ne) ∧ W.cell? ⟨lb, lo' + k, none⟩ = some (I v)) := Lib.hid fun W hW =>
        have hab : ab < wr.heap.size := by have := hBw.size; omega
        ⟨(hW.cell (p := ⟨w.heap.size, 0, none⟩) (show w.heap.size < _ by omega)).trans c0, (hW.cell (p := ⟨ab, ao + k * 4, none⟩) hab).trans a0, (hW.cell (p := ⟨ab, ao + k * 4 + 1, none⟩) hab).trans a1, (hW.cell (p := ⟨ab, ao + k * 4 + 2, none⟩) hab).trans a2, (hW.cell (p := ⟨ab, ao + k * 4 + 3, none⟩) hab).trans a3, (hW.cell (p := ⟨lb, lo' + k, none⟩) (show lb < _ by omega)).trans l0⟩
      cases b
      · go_wp2_with (first
          | (go_at_call 24; refine (HBK.out _).mono ?_; rintro e w2 ⟨rfl, rfl⟩)
          | fail)
        go_roundw
        case rel => exact ⟨k + 1, by omega, by go_num, by rw [HNK.out]; simp, hB⟩
        case measure => first | (simp [intOf]; done) | (simp [intOf]; omega)
      · go_wp2_with (first
          | (go_at_call 24; refine (HBK.out _).mono ?_; rintro e w2 ⟨rfl, rfl⟩)
          | fail)
        refine (wpIn_wide (n := 9)).1 ?_
        refine wpIn_region_plan (Plan.ons [0, 1, 2, 3, 4, 5, 6, 7, 8, 9, 10, 11, 12] .fin) [0] (fun W' => Below wr.heap.size wr W') [] rfl (by kernel_rfl) (by kernel_rfl) (fun _ d _ _ _ h => by cases d <;> exact h) (Below.refl _ _).drew ?_
        (refine ordQ_held (I s) rfl rfl rfl rfl (fun W' hC' => ?_) (fun K hK => ?_); (focus (obtain _ := hC'; go_simp; try exact ⟨rfl, rfl⟩)); go_simp; refine hK _ ?_; clear hK K)
        obtain ⟨n0, n1, n2, n3, n4, n5⟩ := HCX.out wr (Below.refl _ _)
        iterate 9 (refine ordQ_li rfl rfl rfl (fun K hK => ?_); go_simp; refine hK _ ?_; clear hK K)
        refine ordQ_hv rfl rfl rfl (fun K hK => ?_)
        gi_wp2_with (refine And.intro trivial ?_; gi_at_call 25; refine callsIn_wide.2 ((H25.out _).mono ?_); rintro e w5 ⟨rfl, hB5⟩)
        have hb5 : Below wr.heap.size wr w5 := by simpa using (Below.refl _ _).drew.trans hB5
        refine hK _ _ (fun _ => hb5) ?_
        clear hK K hB5
        iterate 2 (refine ordQ_li rfl rfl rfl (fun K hK => ?_); go_simp; refine hK _ ?_; clear hK K)
        refine ordQ_fin ?_
        have hB2 := hB.trans (hb5.mono (by omega))
        go_wp2_with (fail)
        go_roundw
        case rel => first | exact ⟨k + 1, by omega, by go_num, by rw [HNK.out]; simp, hB2⟩ | ((repeat apply Exists.intro); refine ⟨?_, rfl⟩; exact ⟨k + 1, by omega, by go_num, by rw [HNK.out]; simp, hB2⟩)
        case measure => first | (simp [intOf]; done) | (simp [intOf]; omega)
    · obtain rfl : cl.length = k := by omega
      go_wp2_with (fail)
      go_ret
      exact ⟨ret_int HNV.out, hBw⟩
end Go.Proofs.Ytfebhofihioaoaa
