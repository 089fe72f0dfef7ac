/- The spans of some mains. -/
import Derived.Test.YtgdilbilhajgaaaDoorE7
namespace Go.Proofs.YtgdilbilhajgaaaDoor
set_option linter.unusedVariables false
set_option linter.unusedSimpArgs false
open Go Go.RowKit

def flat2 (xs : List (Int × Int)) : List Value := xs.flatMap fun x => [I x.1, I x.2]
theorem flat2_len : ∀ xs : List (Int × Int), (flat2 xs).length = xs.length * 2
  | [] => rfl
  | x :: r => by
    have := flat2_len r
    simp only [flat2, List.flatMap_cons, List.length_append, List.length_cons, List.length_nil] at this ⊢
    omega
theorem flat2_snoc (xs : List (Int × Int)) (x : Int × Int) : flat2 (xs ++ [x]) = flat2 xs ++ [I x.1, I x.2] := by simp [flat2]
theorem flat2_get : ∀ (xs : List (Int × Int)) (k : Nat) (h : k < xs.length), (flat2 xs)[k * 2]? = some (I xs[k].1) ∧ (flat2 xs)[k * 2 + 1]? = some (I xs[k].2)
  | x :: r, 0, _ => ⟨rfl, rfl⟩
  | x :: r, k + 1, h => by
    have := flat2_get r k (by simpa using h)
    have e : flat2 (x :: r) = I x.1 :: I x.2 :: flat2 r := rfl
    rw [e, show (k + 1) * 2 = k * 2 + 1 + 1 by omega]
    simpa using this
theorem own_form2 {w : World} {base n size : Nat} {e : TypeId} {v : Value} {xs : List Value} (h : w.ownsRow base e size v n xs) :
    (v = .slice none 0 0 ∧ n = 0) ∨ ∃ g cap, v = .slice (some ⟨g, 0, none⟩) n cap ∧ base ≤ g ∧ g < w.heap.size ∧ n ≤ cap ∧ cap ≤ 9223372036854775807 := by
  rcases h.2 with h1 | ⟨g, cap, cur, rfl, hb, hc, h3, h4, _⟩
  · exact .inl ⟨h1.1, h1.2⟩
  · exact .inr ⟨g, cap, rfl, (h.lt g rfl).1, (h.lt g rfl).2, h3, by simpa [maxLen] using h4⟩
/-- A row of spans that was laid is a slice of spans. -/
theorem pairs_own {w : World} {base : Nat} {e : TypeId} {v : Value} {xs : List (Int × Int)} (h : w.ownsRow base e 2 v xs.length (flat2 xs)) : ∃ A c, v = .slice A xs.length c ∧ xs.length ≤ c ∧ c ≤ 9223372036854775807 ∧ Pairs w w.heap.size A xs := by
  rcases own_form2 h with ⟨h1, h2⟩ | ⟨g, cap, h1, _, h3, h4, h5⟩
  · exact ⟨none, 0, by rw [h1, h2], by omega, by omega, fun h => by omega⟩
  · refine ⟨_, cap, h1, h4, h5, fun _ => ⟨g, 0, rfl, h3, fun k hk => ?_⟩⟩
    have hc := h.cells (g := g) (by rw [h1]; rfl)
    obtain ⟨a, b⟩ := flat2_get xs k hk
    have ha := hc _ _ a
    have hb := hc _ _ b
    rw [Addr.add_lit] at ha hb
    exact ⟨ha, hb⟩
theorem cells2 (w : World) (a b : Value) (t : TypeId) : ∀ j u, [a, b][j]? = some u → (w.alloc (.cells #[a, b] t)).cell? ((⟨w.heap.size, 0, none⟩ : Addr).add j) = some u := fun j u hj => by
  rcases j with _ | _ | j
  · simp at hj; subst hj; simp [Addr.add, go_sem]
  · simp at hj; subst hj; simp [Addr.add, go_sem]
  · simp at hj

set_option maxRecDepth 100000 in
set_option maxHeartbeats 2000000 in
theorem of59 (sb S n cap : Nat) (sl : List (Int × Int)) (hsl : sl.length = n) (RA : Option Addr) (rc : Nat) (ks : List Nat) (w : World) (hks : ∀ k ∈ ks, k < n) (hkl : ks.length ≤ 1000) (hI : Ints w w.heap.size RA (ks.map fun k : Nat => (k : Int)))
    (hsb : sb < w.heap.size) (hc : w.cell? ⟨sb, 0, none⟩ = some (.slice (some ⟨S, 0, none⟩) n cap)) (hS : SpB w S sl) :
    Calls Tryd.prog 59 #[.slice RA ks.length rc, .pointer (some ⟨sb, 0, none⟩)] w fun e w' => ∃ A c, e = .returned (.slice A ks.length c) ∧ Pairs w' w'.heap.size A (ks.map fun k => sl.getD k (0, 0)) ∧ Below w.heap.size w w' := by
  obtain ⟨i0, hi0, hi1, hi2, hi3⟩ := info_parts info68
  have hu : Tryd.prog.underlying 63 = some (.slice 68) := Tryd.underlying63
  have HU := Lib.hid hu; have HI0 := Lib.hid hi0; have HI1 := Lib.hid hi1; have HI2 := Lib.hid hi2; have HI3 := Lib.hid hi3
  have HSL := Lib.hid hsl
  clear hu hi0 hi1 hi2 hi3 hsl
  go_enter Tryd.func59, Tryd.ntmps59
  go_wp2
  go_loopw [4, 9] (fun s4 s9 wr => ∃ k : Nat, k ≤ ks.length ∧ s9 = I k ∧ Below w.heap.size w wr ∧ Hid (wr.ownsRow w.heap.size 68 2 s4 k (flat2 ((ks.take k).map fun k => sl.getD k (0, 0))))) (fun _ s _ => ks.length - (intOf s).toNat)
  case atStart => exact ⟨0, Nat.zero_le _, rfl, Below.refl _ _, Lib.hid ⟨by simp [flat2], .inl ⟨rfl, rfl⟩⟩⟩
  case round =>
    obtain ⟨k, hk, rfl, hB, HO⟩ := hrel
    have hz := hB.size
    by_cases hlt : k < ks.length
    · obtain ⟨b, off, rfl, hb, hcs⟩ := (hI.below hB) (by simp; omega)
      have hx := hcs k (by simpa using hlt)
      simp only [List.getElem_map] at hx
      have hin := hks ks[k] (List.getElem_mem hlt)
      have hcb := (hB.cell (p := ⟨sb, 0, none⟩) hsb).trans hc
      obtain ⟨s1, s2, _, _⟩ := (hS.below hB hS.1).2 ks[k] (by rw [HSL.out]; exact hin)
      have HN : Hid ((ks.take (k + 1)).map (fun k => sl.getD k (0, 0)) = (ks.take k).map (fun k => sl.getD k (0, 0)) ++ [(sl[ks[k]]'(by rw [HSL.out]; exact hin))]) := Lib.hid (by
        rw [List.take_succ_eq_append_getElem hlt, List.map_append]
        simp [List.getD, show ks[k] < sl.length by rw [HSL.out]; exact hin])
      generalize sl[ks[k]]'(by rw [HSL.out]; exact hin) = x at *
      generalize ks[k] = i at *
      obtain ⟨x1, x2⟩ := x
      simp only at s1 s2
      have b0 : (0 : Int) ≤ (i : Int) := by omega
      have b1 : (i : Int) < (n : Int) := by omega
      have hsz := (hS.below hB hS.1).1
      clear hcs
      go_wp2_with (first
        | (at_builtin; refine wpList_append_own _ rfl _ _ 63 rfl w.heap.size 68 i0 (.agg #[I 0, I 0]) 2 16 HU.out HI0.out HI1.out HI2.out HI3.out rfl (by decide) _ _ _ rfl (HO.out.alloc _) ⟨wr.heap.size, 0, none⟩ 1 1 [I x1, I x2] rfl rfl (cells2 _ _ _ _) (by simp [Value.oneCell']) (by unfold maxLen; omega) (by omega) (by simp; omega) ?_; intro v' w1 hown' hgrow _; have HO1 := Lib.hid hown'; clear hown')
        | fail)
      have hB1 : Below w.heap.size w w1 := (hB.alloc hz _).grown hgrow (by simp; omega) (fun g e => (HO.out.lt g e).1)
      have hO2 : Hid (w1.ownsRow w.heap.size 68 2 v' (k + 1) (flat2 ((ks.take (k + 1)).map fun k => sl.getD k (0, 0)))) := Lib.hid (by rw [HN.out, flat2_snoc]; exact HO1.out)
      clear hgrow HO1
      go_wp2
      go_roundw
      case rel => exact ⟨k + 1, by omega, by go_num, hB1, hO2⟩
      case measure => simp [intOf]; omega
    · obtain rfl : ks.length = k := by omega
      have hown := HO.out
      rw [List.take_length] at hown
      have hp := pairs_own (w := wr) (by rw [List.length_map]; exact hown)
      rw [List.length_map] at hp
      obtain ⟨A', c', rfl, _, _, hp2⟩ := hp
      clear hown HO
      go_wp2
      go_ret
      exact ⟨A', c', rfl, hp2, hB⟩
end Go.Proofs.YtgdilbilhajgaaaDoor
