/- Some of the readings; whether a main surely gives too much by them. -/
import Derived.Test.YtgdilbilhajgaaaDoorE16
namespace Go.Proofs.YtgdilbilhajgaaaDoor
set_option linter.unusedVariables false
set_option linter.unusedSimpArgs false
open Go Go.RowKit

set_option maxHeartbeats 400000 in
theorem idx37 (p : Set12 → Bool) (g : Nat) (lb : Array Value) (eg : ∀ args w, (callFunc g args).run Tryd.prog w = .ok (.enter g args) w) (blk c : Nat) (xs : List Set12) (w : World)
    (hblk : blk < w.heap.size) (hx : ∀ k (h : k < xs.length), w.cell? ⟨blk, k, none⟩ = some (encS xs[k])) (hn : xs.length ≤ 4096) (hp : PredP g lb encS p xs w) :
    Calls Tryd.prog 37 #[.slice (some ⟨blk, 0, none⟩) xs.length c, .func (.func g) #[] lb] w fun e w' => e = .returned (I (idxI p xs)) ∧ Below w.heap.size w w' := by
  have HX := Lib.hid hx
  clear hx
  go_enter Tryd.func37, Tryd.ntmps37
  go_wp2
  go_loopw [8] (fun s wr => ∃ k : Nat, k ≤ xs.length ∧ s = I k ∧ Below w.heap.size w wr ∧ Hid (∀ j (h : j < xs.length), j < k → p xs[j] = false)) (fun s _ => xs.length - (intOf s).toNat)
  case atStart => exact ⟨0, Nat.zero_le _, rfl, Below.refl _ _, Lib.hid fun j _ h => by omega⟩
  case round =>
    obtain ⟨k, hk, rfl, hB, hall⟩ := hrel
    by_cases hlt : k < xs.length
    · have hcell := (hB.cell (p := ⟨blk, k, none⟩) hblk).trans (HX.out k hlt)
      have hcall := hp k hlt wr hB
      have hbz := Nat.lt_of_lt_of_le hblk hB.size
      rw [show encS xs[k] = .int .u64 (xs[k].1 : Int) from rfl] at hcall hcell
      generalize (xs[k].1 : Int) = sv at *
      cases hq : p xs[k] with
      | true =>
        have HQ := Lib.hid hq
        rw [hq] at hcall
        clear hq
        go_wp2_with (go_at_fn g; refine hcall.mono ?_; rintro e w' ⟨rfl, hb'⟩)
        go_ret
        exact ⟨ret_int (idxI_hit hlt HQ.out hall.out).symm, hB.trans (hb'.mono hB.size)⟩
      | false =>
        have HQ := Lib.hid hq
        rw [hq] at hcall
        clear hq
        go_wp2_with (go_at_fn g; refine hcall.mono ?_; rintro e w' ⟨rfl, hb'⟩)
        go_roundw
        case rel => exact ⟨k + 1, by omega, by go_num, hB.trans (hb'.mono hB.size), Lib.hid fun j h hj => by
          rcases Nat.lt_succ_iff_lt_or_eq.1 hj with h1 | rfl
          · exact hall.out j h h1
          · exact HQ.out⟩
        case measure => simp [intOf]; omega
    · go_wp2
      go_ret
      exact ⟨ret_int (idxI_miss fun j h => hall.out j h (by omega)).symm, hB⟩

def flat3 (xs : List (Int × Int × Int)) : List Value := xs.flatMap fun x => [I x.1, I x.2.1, I x.2.2]
theorem flat3_snoc (xs : List (Int × Int × Int)) (x : Int × Int × Int) : flat3 (xs ++ [x]) = flat3 xs ++ [I x.1, I x.2.1, I x.2.2] := by simp [flat3]
theorem flat3_get : ∀ (xs : List (Int × Int × Int)) (k : Nat) (h : k < xs.length), (flat3 xs)[k * 3]? = some (I xs[k].1) ∧ (flat3 xs)[k * 3 + 1]? = some (I xs[k].2.1) ∧ (flat3 xs)[k * 3 + 2]? = some (I xs[k].2.2)
  | x :: r, 0, _ => ⟨rfl, rfl, rfl⟩
  | x :: r, k + 1, h => by
    have := flat3_get r k (by simpa using h)
    have e : flat3 (x :: r) = I x.1 :: I x.2.1 :: I x.2.2 :: flat3 r := rfl
    rw [e, show (k + 1) * 3 = k * 3 + 1 + 1 + 1 by omega]
    simpa using this
theorem threes_own {w : World} {base : Nat} {e : TypeId} {v : Value} {n : Nat} {xs : List (Int × Int × Int)} (hn : xs.length = n) (h : w.ownsRow base e 3 v n (flat3 xs)) : ∃ A c, v = .slice A n c ∧ Threes w w.heap.size A xs := by
  subst hn
  rcases own_form2 h with ⟨h1, h2⟩ | ⟨g, cap, h1, _, h3, h4, h5⟩
  · exact ⟨none, 0, by rw [h1, h2], fun h => by omega⟩
  · refine ⟨_, cap, h1, fun _ => ⟨g, 0, rfl, h3, fun k hk => ?_⟩⟩
    have hc := h.cells (g := g) (by rw [h1]; rfl)
    obtain ⟨a, b, d⟩ := flat3_get xs k hk
    have ha := hc _ _ a
    have hb := hc _ _ b
    have hd := hc _ _ d
    rw [Addr.add_lit] at ha hb hd
    exact ⟨ha, hb, hd⟩
theorem cells3 (w : World) (a b c : Value) (t : TypeId) : ∀ j u, [a, b, c][j]? = some u → (w.alloc (.cells #[a, b, c] t)).cell? ((⟨w.heap.size, 0, none⟩ : Addr).add j) = some u := fun j u hj => by
  rcases j with _ | _ | _ | j
  · simp at hj; subst hj; simp [Addr.add, go_sem]
  · simp at hj; subst hj; simp [Addr.add, go_sem]
  · simp at hj; subst hj; simp [Addr.add, go_sem]
  · simp at hj
theorem info42 : (Tryd.prog.info? 42).map (fun i => (i.zero, i.size, i.bytes)) = some (some (.agg #[I 0, I 0, I 0]), 3, 24) := by kernel_rfl

/-- Some of the readings. -/
def someL (l : List (Int × Int × Int)) (ks : List Nat) : List (Int × Int × Int) := ks.map fun k => l.getD k (0, 0, 0)
theorem mem_someL {l : List (Int × Int × Int)} {ks : List Nat} (h : ∀ k ∈ ks, k < l.length) {r : Int × Int × Int} (hr : r ∈ someL l ks) : r ∈ l := by
  obtain ⟨k, hk, rfl⟩ := List.mem_map.1 hr
  have := h k hk
  simp [List.getD, this]
theorem feas_some {m : List (Int × Int)} {l : List (Int × Int × Int)} {ks : List Nat} (h : ∀ k ∈ ks, k < l.length) {x : Nat → Int} (hx : Feas m l x) : Feas m (someL l ks) x := fun i hi => by
  obtain ⟨h1, h2, h3⟩ := hx i hi
  refine ⟨mem_told.2 ⟨(mem_told.1 h1).1, fun r hr e => (mem_told.1 h1).2 r (mem_someL h hr) e⟩, h2, h3⟩
theorem rds_some {n : Int} {l : List (Int × Int × Int)} {ks : List Nat} (h : ∀ k ∈ ks, k < l.length) (hl : ∀ k (h : k < l.length), rdP n l[k]) : ∀ k (h : k < (someL l ks).length), rdP n (someL l ks)[k] := fun k hk => by
  obtain ⟨j, hj, e⟩ := List.mem_iff_getElem.1 (mem_someL h (List.getElem_mem hk))
  rw [← e]
  exact hl j hj
theorem bits_lt {s N : Nat} (h : s < 2 ^ N) : ∀ k ∈ bitsL s, k < N := fun k hk => by
  have h1 : s.testBit k = true := by simpa [bitsL] using (List.mem_filter.1 hk).2
  rcases Nat.lt_or_ge k N with h2 | h2
  · exact h2
  · rw [Nat.testBit_lt_two_pow (Nat.lt_of_lt_of_le h (Nat.pow_le_pow_right (by decide) h2))] at h1
    cases h1
/-- By these readings the main surely gives too much. -/
def SureP (m : List (Int × Int)) (l : List (Int × Int × Int)) (main : Nat) (ks : List Nat) : Prop := ∀ x, Feas m (someL l ks) x → limW m main < x main
open Classical in
noncomputable def sureB (m : List (Int × Int)) (l : List (Int × Int × Int)) (main : Nat) (s : Set12) : Bool := decide (SureP m l main (bitsL s.1))
open Classical in
theorem sureB_iff {m : List (Int × Int)} {l : List (Int × Int × Int)} {main : Nat} {s : Set12} : sureB m l main s = true ↔ SureP m l main (bitsL s.1) := by
  unfold sureB
  exact decide_eq_true_iff
theorem sure_spans {m : List (Int × Int)} {l : List (Int × Int × Int)} {d : Nat → Int × Int} (h : IsSpans m l d) {main : Nat} (hm : main < m.length) (v : Int) : v < (d main).1 ↔ ∀ x, Feas m l x → v < x main := by
  constructor
  · intro h1 x hx
    have := h.sound x hx main hm
    omega
  · intro h1
    obtain ⟨x, hx, e⟩ := h.full main hm _ (Int.le_refl _) (h.le hm)
    have := h1 x hx
    omega

set_option maxRecDepth 100000 in
set_option maxHeartbeats 4000000 in
theorem clo38 (lb tb kb mb T c cb main : Nat) (A B : Option Addr) (m : List (Int × Int)) (l : List (Int × Int × Int)) (s : Set12) (w : World) (hs : s.1 < 2 ^ l.length) (hT : TreeAt w T A c m) (hl : Threes w w.heap.size B l) (hll : l.length ≤ 12) (hv : ∀ k (h : k < l.length), rdP m.length l[k])
    (hf : ∃ x, Feas m l x) (hmain : main < m.length) (hTab : TabOk w) (z : lb < w.heap.size ∧ tb < w.heap.size ∧ kb < w.heap.size ∧ mb < w.heap.size)
    (c1 : w.cell? ⟨lb, 0, none⟩ = some (.slice B l.length cb)) (c2 : w.cell? ⟨tb, 0, none⟩ = some (.pointer (some ⟨T, 0, none⟩))) (c3 : w.cell? ⟨kb, 0, none⟩ = some (I main)) (c4 : w.cell? ⟨mb, 0, none⟩ = some (.slice A m.length c)) :
    Calls Tryd.prog 38 (#[encS s] ++ #[.pointer (some ⟨lb, 0, none⟩), .pointer (some ⟨tb, 0, none⟩), .pointer (some ⟨kb, 0, none⟩), .pointer (some ⟨mb, 0, none⟩)]) w fun e w' => e = .returned (.bool (sureB m l main s)) ∧ Below w.heap.size w w' := by
  obtain ⟨i0, hi0, hi1, hi2, hi3⟩ := info_parts info42
  have hu : Tryd.prog.underlying 23 = some (.slice 42) := Tryd.underlying23
  have HU := Lib.hid hu; have HI0 := Lib.hid hi0; have HI1 := Lib.hid hi1; have HI2 := Lib.hid hi2; have HI3 := Lib.hid hi3
  clear hu hi0 hi1 hi2 hi3
  obtain ⟨z1, z2, z3, z4⟩ := z
  have hbl := bits_lt hs
  have hb12 := bitsL_len s.1
  have HLS := Lib.hid (list39 s.1 s.2 w hTab)
  have HFL : Hid (∀ W A' c', Below w.heap.size w W → Threes W W.heap.size A' (someL l (bitsL s.1)) → Calls Tryd.prog 40 #[.pointer (some ⟨T, 0, none⟩), .slice A' (bitsL s.1).length c'] W (FlPost m (someL l (bitsL s.1)) W)) := Lib.hid fun W A' c' hB hI => by
    have := flows40 T A A' c c' m (someL l (bitsL s.1)) W (hT.call hB) hI (by simp [someL]; omega) (rds_some hbl hv)
    rwa [show (someL l (bitsL s.1)).length = (bitsL s.1).length by simp [someL]] at this
  have HSU : Hid (∀ sl, IsSpans m (someL l (bitsL s.1)) (sF sl) → sureB m l main s = decide (limW m main < (sF sl main).1)) := Lib.hid fun sl h => by
    rw [Bool.eq_iff_iff, sureB_iff, decide_eq_true_iff, sure_spans h hmain]
    rfl
  have HF : Hid (∃ x, Feas m (someL l (bitsL s.1)) x) := Lib.hid (by obtain ⟨x, hx⟩ := hf; exact ⟨x, feas_some hbl hx⟩)
  have HMM : Hid (Pairs w w.heap.size A m) := Lib.hid hT.hm
  have hn16 := hT.ok.le
  have HLT := Lib.hid hl
  have HNB : Hid ((natI (bitsL s.1)).length = (bitsL s.1).length ∧ (natI (bitsL s.1)).map I = (bitsL s.1).map fun k : Nat => I (k : Int)) := Lib.hid ⟨by simp [natI], by simp [natI]⟩
  have HBL := Lib.hid hbl
  clear hT hl hv hf hbl hTab hs
  rw [show encS s = .int .u64 (s.1 : Int) from rfl]
  simp only [List.append_toArray, List.cons_append, List.nil_append]
  generalize bitsL s.1 = ks at *
  generalize sureB m l main s = sb at *
  generalize s.1 = sv at *
  go_enter Tryd.func38, Tryd.ntmps38
  go_wp2_with (first
    | (go_at_call 39; refine HLS.out.mono ?_; rintro e w1 ⟨v, rfl, hO, hL⟩; obtain ⟨A1, c1', rfl, hI⟩ := (slice_own HNB.out.1 (by rw [HNB.out.2]; exact hO)); have hB1 := hL.1; have HI1' := Lib.hid hI; clear hO hL hI)
    | fail)
  have hz1 := hB1.size
  go_loopw [7, 15] (fun s7 s15 wr => ∃ k : Nat, k ≤ ks.length ∧ s15 = I k ∧ Below w1.heap.size w1 wr ∧ Hid (wr.ownsRow w1.heap.size 42 3 s7 k (flat3 (someL l (ks.take k))))) (fun _ s _ => ks.length - (intOf s).toNat)
  case atStart => exact ⟨0, Nat.zero_le _, rfl, Below.refl _ _, Lib.hid ⟨by simp [flat3, someL], .inl ⟨rfl, rfl⟩⟩⟩
  case round =>
    obtain ⟨k, hk, rfl, hB, HO⟩ := hrel
    have hz := hB.size
    have hBw : Below w.heap.size w wr := hB1.trans (hB.mono hz1)
    by_cases hlt : k < ks.length
    · obtain ⟨b1, o1, rfl, hbz, hcs⟩ := (HI1'.out.below hB) (by simp [natI]; omega)
      have hx := hcs k (by simpa [natI] using hlt)
      simp only [natI, List.getElem_map] at hx
      have hkl := HBL.out ks[k] (List.getElem_mem hlt)
      have HN : Hid (someL l (ks.take (k + 1)) = someL l (ks.take k) ++ [l[ks[k]]]) := Lib.hid (by
        unfold someL
        rw [List.take_succ_eq_append_getElem hlt, List.map_append]
        simp [List.getD, hkl])
      generalize ks[k] = i at *
      obtain ⟨b2, o2, rfl, hbz2, hcs2⟩ := (HLT.out.below hBw) (by omega)
      obtain ⟨x0, x1, x2⟩ := hcs2 i hkl
      generalize l[i] = r at *
      obtain ⟨ra, rb', rc⟩ := r
      simp only at x0 x1 x2
      have e1 := (hBw.cell (p := ⟨lb, 0, none⟩) z1).trans c1
      have b0 : (0 : Int) ≤ (i : Int) := by omega
      have b1' : (i : Int) < (l.length : Int) := by omega
      clear hcs hcs2
      go_wp2_with (first
        | (at_builtin; refine wpList_append_own _ rfl _ _ 23 rfl w1.heap.size 42 i0 (.agg #[I 0, I 0, I 0]) 3 24 HU.out HI0.out HI1.out HI2.out HI3.out rfl (by decide) _ _ _ rfl (HO.out.alloc _) ⟨wr.heap.size, 0, none⟩ 1 1 [I ra, I rb', I rc] rfl rfl (cells3 _ _ _ _ _) (by simp [Value.oneCell']) (by unfold maxLen; omega) (by omega) (by simp; omega) ?_; intro v' w2 hown' hgrow _; have HO1 := Lib.hid hown'; clear hown')
        | fail)
      have hB2 : Below w1.heap.size w1 w2 := (hB.alloc hz _).grown hgrow (by simp; omega) (fun g e => (HO.out.lt g e).1)
      have hO2 : Hid (w2.ownsRow w1.heap.size 42 3 v' (k + 1) (flat3 (someL l (ks.take (k + 1))))) := Lib.hid (by rw [HN.out, flat3_snoc]; exact HO1.out)
      clear hgrow HO1
      go_wp2
      go_roundw
      case rel => exact ⟨k + 1, by omega, by go_num, hB2, hO2⟩
      case measure => simp [intOf]; omega
    · obtain rfl : ks.length = k := by omega
      have hown := HO.out
      rw [List.take_length] at hown
      obtain ⟨A2, c2', rfl, hTH⟩ := threes_own (by simp [someL]) hown
      have HTH := Lib.hid hTH
      have hd2 := (hBw.cell (p := ⟨tb, 0, none⟩) z2).trans c2
      clear hown hTH HO
      go_wp2_with (first
        | (go_at_call 40; refine (HFL.out _ _ _ hBw HTH.out).mono ?_; rintro e w3 ⟨S, sl, r, rfl, hS1, hS2, hS3, hB4, ⟨rfl, hsp⟩ | ⟨rfl, hno⟩⟩ <;> first | (have HSP := Lib.hid hsp; clear hsp; have HS2 := Lib.hid hS2; clear hS2) | (exact absurd HF.out hno))
        | fail)
      have hBw3 : Below w.heap.size w w3 := below_call hBw hB4
      have hz3 := hBw3.size
      obtain ⟨q0, q1, _, _⟩ := HS2.out.2 main (by omega)
      have hSz := HS2.out.1
      have HQ : Hid (sb = decide (limW m main < sl[main].1)) := Lib.hid (by rw [HSU.out sl HSP.out]; simp [sF, List.getD, show main < sl.length by omega])
      obtain ⟨b5, o5, rfl, hbz5, hcs5⟩ := (HMM.out.below hBw3) (by omega)
      obtain ⟨y0, y1⟩ := hcs5 main hmain
      have e5 : m[main].2 = limW m main := by simp [limW, List.getD, hmain]
      rw [e5] at y1
      generalize sl[main].1 = q at *
      generalize limW m main = lm at *
      have f3 := (hBw3.cell (p := ⟨kb, 0, none⟩) z3).trans c3
      have f4 := (hBw3.cell (p := ⟨mb, 0, none⟩) z4).trans c4
      have b0 : (0 : Int) ≤ (main : Int) := by omega
      have b1' : (main : Int) < (m.length : Int) := by omega
      clear hcs5 y0 q1
      go_quiet (fail)
      go_wp2
      go_ret
      exact ⟨ret_b HQ.out.symm, below_drewN hBw3 _⟩
end Go.Proofs.YtgdilbilhajgaaaDoor
