/- less, bears. -/
import Derived.Test.YtilmlgngnbokfaaC1
namespace Go.Proofs.Ytilmlgngnbokfaa
set_option linter.unusedVariables false
set_option linter.unusedSimpArgs false
open Go.RowKit

theorem less_any (n d m e : Int) (w : World) (h1 : 0 ≤ n * e ∧ n * e ≤ 1000000000000000000) (h2 : 0 ≤ m * d ∧ m * d ≤ 1000000000000000000) :
    Calls Try.prog 15 #[Rat2 n d, Rat2 m e] w fun r w' => r = .returned (.bool (decide (n * e ≤ m * d))) ∧ Below w.heap.size w w' := by
  have w1 : IntKind.i64.wrap (n * e) = n * e := IntWalk.i64_in _ (by omega)
  have w2 : IntKind.i64.wrap (m * d) = m * d := IntWalk.i64_in _ (by omega)
  go_enter Try.func15, Try.ntmps15
  go_wp2
  all_goals
    go_ret
    exact ⟨rfl, by (repeat' (first | assumption | exact Below.refl _ _ | refine Below.drew ?_ | refine below_drewN ?_ _ | refine Below.setCell ?_ (by first | omega | (simp; done) | (simp; omega)) _ | refine Below.alloc ?_ (by first | omega | (simp; done) | (simp; omega)) _ | refine Below.trans ?_ (Below.mono (by assumption) (by first | omega | (simp; done) | (simp; omega)))))⟩

def bearsN (d : Deck) (i : Nat) (xs : List Int) : Int := halfU (leftOf d.lengths i) (rightOf d.lengths i) d.own + (xs.map fun x => shareD d i (x - (d.lengths.take i).sum)).sum

set_option maxRecDepth 100000 in
set_option maxHeartbeats 2000000 in
theorem bears_any (Ap Al : Option Addr) (cp cl : Nat) (d : Deck) (i : Nat) (B : Option Addr) (cb : Nat) (xs : List Int) (w : World) (ha : DeckAt w Ap Al d) (hd : d.ok 1000000) (hi : i < d.posts.length) (hx : Ints w w.heap.size B xs) (hxl : xs.length ≤ 100) (hxb : ∀ x ∈ xs, 0 ≤ x ∧ x ≤ 10000) :
    Calls Try.prog 16 #[d.val Ap Al cp cl, I i, .slice B xs.length cb] w (RetI (bearsN d i xs) w) := by
  have hhf := fun W (hB : Below w.heap.size w W) => half_any Ap Al cp cl d i W (ha.below hB) hd hi
  have hsh := fun W (hB : Below w.heap.size w W) x hx => share_any Ap Al cp cl d i x W (ha.below hB) hd hi hx
  have hb0 := beam_bd hd i
  have hhb := half_bd hb0.1 hb0.2 hd.2.2.2.2.2.1
  have hcu := comU_bd hb0.1 hb0.2
  have hshb := fun y => share_nonneg hb0.1 hb0.2 hd.2.2.2.2.2.2.1 y
  unfold bearsN
  unfold shareD at *
  obtain ⟨o1, o2, o3, _, o5, _⟩ := hd
  generalize halfU (leftOf d.lengths i) (rightOf d.lengths i) d.own = hf at *
  generalize comU (leftOf d.lengths i) (rightOf d.lengths i) = C at *
  generalize shareU (leftOf d.lengths i) (rightOf d.lengths i) d.weight = sh at *
  have hl := ha.hl
  clear ha hb0
  obtain ⟨ps, ls, own, wt, ap, pe⟩ := d
  simp only [Deck.val] at *
  have hat : ∀ k, k ≤ i → 0 ≤ (ls.take k).sum ∧ (ls.take k).sum ≤ k * 200 := fun k hk => by
    have h1 := sum_le (M := 200) (ls.take k) (fun v hv => by
      obtain ⟨j, hj, rfl⟩ := List.mem_iff_getElem.1 (List.mem_of_mem_take hv)
      have := o5 j hj
      omega)
    have h2 : (ls.take k).length ≤ k := List.length_take_le _ _
    refine ⟨h1.1, Int.le_trans h1.2 (Int.mul_le_mul_of_nonneg_right (by omega) (by omega))⟩
  have hsum : ∀ k, k ≤ xs.length → 0 ≤ ((xs.take k).map fun x => sh (x - (ls.take i).sum)).sum ∧ ((xs.take k).map fun x => sh (x - (ls.take i).sum)).sum ≤ 100 * (500 * C) := fun k hk => by
    have h1 := sum_le (M := 500 * C) ((xs.take k).map fun x => sh (x - (ls.take i).sum)) (fun v hv => by
      obtain ⟨y, _, rfl⟩ := List.mem_map.1 hv
      exact hshb _)
    have h2 : ((xs.take k).map fun x => sh (x - (ls.take i).sum)).length ≤ 100 := by rw [List.length_map]; have := List.length_take_le k xs; omega
    exact ⟨h1.1, Int.le_trans h1.2 (Int.mul_le_mul_of_nonneg_right (by omega) (by omega))⟩
  have HAT := Lib.hid hat; have HSUM := Lib.hid hsum; have HSHB := Lib.hid hshb; have HXB := Lib.hid hxb
  have HHF := Lib.hid hhf; have HSH := Lib.hid hsh
  clear hat hsum hshb hxb hhf hsh o5
  have hce : ∀ W, Below (w.heap.size + 1) (w.alloc (.cells #[.slice Ap ps.length cp, .slice Al ls.length cl, I own, I wt, I ap, I pe] 24)) W →
      (W.cell? ⟨w.heap.size, 0, none⟩ = some (.slice Ap ps.length cp) ∧ W.cell? ⟨w.heap.size, 1, none⟩ = some (.slice Al ls.length cl) ∧ W.cell? ⟨w.heap.size, 2, none⟩ = some (I own) ∧ W.cell? ⟨w.heap.size, 3, none⟩ = some (I wt) ∧ W.cell? ⟨w.heap.size, 4, none⟩ = some (I ap) ∧ W.cell? ⟨w.heap.size, 5, none⟩ = some (I pe)) ∧ Below w.heap.size w W ∧ w.heap.size + 1 ≤ W.heap.size := fun W hB => by
    refine ⟨⟨?_, ?_, ?_, ?_, ?_, ?_⟩, ((Below.refl _ w).alloc (Nat.le_refl _) _).trans (hB.mono (by omega)), by have := hB.size; simpa using this⟩
    iterate 6 (rw [hB.cell (p := ⟨w.heap.size, _, none⟩) (by simp)]; simp [go_sem])
  have HCE := Lib.hid hce
  clear hce
  have hat2 := HAT.out i (Nat.le_refl _)
  go_enter Try.func16, Try.ntmps16
  go_wp2
  go_loop [7, 8] (fun s7 s8 => ∃ k : Nat, k ≤ i ∧ s8 = I k ∧ s7 = I (ls.take k).sum) (fun _ s8 => i - (intOf s8).toNat)
  case atStart => exact ⟨0, by omega, rfl, rfl⟩
  case round =>
    obtain ⟨k, hk, rfl, rfl⟩ := hrel
    by_cases hlt : k < i
    · have hkl : k < ls.length := by omega
      obtain ⟨b, off, rfl, hb, hcs⟩ := hl (by omega)
      have hb1 : b < w.heap.size + 1 := by omega
      have hc := hcs k hkl
      have hs := HAT.out k hk
      have hsn : (ls.take (k + 1)).sum = (ls.take k).sum + ls[k] := by rw [List.take_succ_eq_append_getElem hkl, List.sum_append]; simp
      have hsb := HAT.out (k + 1) (by omega)
      rw [hsn] at hsb
      generalize (ls.take k).sum = s at *
      generalize ls[k] = z at hc hsn hsb
      have HSN := Lib.hid hsn
      clear hcs hsn
      go_wp2
      go_round
      case rel => exact ⟨k + 1, by omega, by go_num, by rw [HSN.out]⟩
      case measure => simp [intOf]; omega
    · obtain rfl : k = i := by omega
      generalize hsd : (ls.take k).sum = s at *
      have HSD := Lib.hid hsd
      clear hsd
      go_wp2_with (go_at_call 20; refine (HHF.out _ (by (repeat' (first | assumption | exact Below.refl _ _ | refine Below.drew ?_ | refine below_drewN ?_ _ | refine Below.setCell ?_ (by first | omega | (simp; done) | (simp; omega)) _ | refine Below.alloc ?_ (by first | omega | (simp; done) | (simp; omega)) _ | refine Below.trans ?_ (Below.mono (by assumption) (by first | omega | (simp; done) | (simp; omega))))))).mono ?_; rintro e w1 ⟨rfl, hB1⟩)
      have hw1 : Below (w.heap.size + 1) (w.alloc (.cells #[.slice Ap ps.length cp, .slice Al ls.length cl, I own, I wt, I ap, I pe] 24)) w1 := by simpa using hB1
      clear hB1
      go_loopw [9, 11, 29] (fun s9 s11 s29 wr => ∃ j : Nat, j ≤ xs.length ∧ s29 = I j ∧ s9 = I (hf + ((xs.take j).map fun x => sh (x - s)).sum) ∧ Below (w.heap.size + 1) (w.alloc (.cells #[.slice Ap ps.length cp, .slice Al ls.length cl, I own, I wt, I ap, I pe] 24)) wr) (fun _ _ s29 _ => xs.length - (intOf s29).toNat)
      case atStart => exact ⟨0, by omega, rfl, by simp, hw1⟩
      case round =>
        obtain ⟨j, hj, rfl, rfl, hB⟩ := hrel
        obtain ⟨⟨a1, a2, a3, a4, a5, a6⟩, hq, hz⟩ := HCE.out wr hB
        by_cases hlt2 : j < xs.length
        · obtain ⟨bx, offx, rfl, hbx, hcx⟩ := (hx.below hq) (by omega)
          have hc := hcx j hlt2
          have hxx := HXB.out xs[j] (List.getElem_mem hlt2)
          have hs1 := HSUM.out j hj
          have hsn : ((xs.take (j + 1)).map fun x => sh (x - s)).sum = ((xs.take j).map fun x => sh (x - s)).sum + sh (xs[j] - s) := by rw [List.take_succ_eq_append_getElem hlt2, List.map_append, List.sum_append]; simp
          have hs2 := HSUM.out (j + 1) (by omega)
          rw [hsn] at hs2
          generalize ((xs.take j).map fun x => sh (x - s)).sum = q at *
          generalize xs[j] = z at hc hxx hsn hs2
          have hsb := HSHB.out (z - s)
          have hcall := HSH.out wr hq (z - s) (by omega)
          generalize sh (z - s) = sz at *
          have HSN := Lib.hid hsn
          have HC := Lib.hid hcall
          clear hcx hsn hcall
          go_wp2_with (go_at_call 18; refine HC.out.mono ?_; rintro e w2 ⟨rfl, hB2⟩)
          go_roundw
          case rel => exact ⟨j + 1, by omega, by go_num, by rw [HSN.out, ← Int.add_assoc], hB.trans (hB2.mono hz)⟩
          case measure => simp [intOf]; omega
        · obtain rfl : j = xs.length := by omega
          go_wp2
          go_ret
          exact ⟨by rw [List.take_length, HSD.out]; rfl, hq⟩
end Go.Proofs.Ytilmlgngnbokfaa
