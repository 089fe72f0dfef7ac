/- The document's Needed. -/
import Derived.Test.YtijgfdncocjncaaD14
namespace Go.Proofs.Ytijgfdncocjncaa
set_option linter.unusedVariables false
set_option linter.unusedSimpArgs false
open Go Go.RowKit

theorem filter_ne_at {l : List Nat} (h : l.Pairwise (· < ·)) {i : Nat} (hi : i < l.length) : l.filter (· != l[i]) = l.take i ++ l.drop (i + 1) := by
  have e : l = l.take i ++ l[i] :: l.drop (i + 1) := by
    rw [← List.drop_eq_getElem_cons hi, List.take_append_drop]
  have h2 := h
  rw [e, List.pairwise_append, List.pairwise_cons] at h2
  obtain ⟨_, ⟨h3, _⟩, h4⟩ := h2
  generalize hf : l[i] = f at *
  conv => lhs; rw [e]
  rw [List.filter_append, List.filter_cons]
  have e1 : (l.take i).filter (· != f) = l.take i := List.filter_eq_self.2 fun a ha => by
    have := h4 a ha f (by simp)
    simp; omega
  have e2 : (l.drop (i + 1)).filter (· != f) = l.drop (i + 1) := List.filter_eq_self.2 fun a ha => by
    have := h3 a ha
    simp; omega
  rw [e1, e2]
  simp
/-- Those of the first j sources that are needed. -/
def nedP (x : Wat) (t j : Nat) : List Nat := ((srcs x t).take j).filter fun f => !enB x t ((srcs x t).filter (· != f))
theorem nedP_all (x : Wat) (t : Nat) : nedP x t (srcs x t).length = nedT x t := by unfold nedP nedT; rw [List.take_length]
theorem nedP_len (x : Wat) (t j : Nat) : (nedP x t j).length ≤ j := by
  unfold nedP
  exact Nat.le_trans (List.length_filter_le _ _) (by rw [List.length_take]; omega)
theorem nedP_succ {x : Wat} {t j : Nat} (hj : j < (srcs x t).length) : nedP x t (j + 1) = nedP x t j ++ if enB x t ((srcs x t).take j ++ (srcs x t).drop (j + 1)) then [] else [(srcs x t)[j]] := by
  unfold nedP
  rw [List.take_succ_eq_append_getElem hj, List.filter_append, List.filter_cons, filter_ne_at (srcs_sorted x t) hj]
  cases enB x t ((srcs x t).take j ++ (srcs x t).drop (j + 1)) <;> simp
theorem nedTo_step {x : Wat} {k : Nat} {o : List (Int × Int)} (h1 : nedTo x k = some o) (h2 : enB x k (srcs x k) = true) : nedTo x (k + 1) = some (o ++ lnk k (nedT x k)) := by
  unfold nedTo
  rw [h1]
  dsimp only
  rw [if_pos h2]
theorem nedTo_stop {x : Wat} {k : Nat} (h2 : enB x k (srcs x k) = false) : ∀ j, k < j → nedTo x j = none
  | 0, hj => by omega
  | j + 1, hj => by
    unfold nedTo
    by_cases e : k = j
    · subst e
      rw [h2]
      cases nedTo x k <;> simp
    · rw [nedTo_stop h2 j (by omega)]
theorem lnk_one (t : Nat) (l : List Nat) (f : Nat) (o : List (Int × Int)) : flat2 (o ++ lnk t (l ++ [f])) = flat2 (o ++ lnk t l) ++ [I f, I t] := by
  rw [lnk_app, ← List.append_assoc, flat2_app (o ++ _)]
  simp [flat2]
theorem natI_cells {w : World} {g n c : Nat} {l : List Nat} (h : w.ownsRow 0 3 1 (.slice (some ⟨g, 0, none⟩) n c) n (natI l)) : ∀ j u, (natI l)[j]? = some u → w.cell? ⟨g, j, none⟩ = some u := fun j u hj => by
  have h1 := h.cells (g := g) rfl j u hj
  rwa [Addr.add_lit, Nat.zero_add] at h1
theorem natI_take {l : List Nat} {i j : Nat} {u : Value} (h : (natI (l.take i))[j]? = some u) : (natI l)[j]? = some u := by
  unfold natI at h ⊢
  rw [List.map_take, List.getElem?_take] at h
  split at h
  · exact h
  · cases h
theorem natI_drop {l : List Nat} {i j : Nat} {u : Value} (h : (natI (l.drop i))[j]? = some u) : (natI l)[i + j]? = some u := by
  unfold natI at h ⊢
  rwa [List.map_drop, List.getElem?_drop] at h
theorem natI_app (a b : List Nat) : natI (a ++ b) = natI a ++ natI b := by unfold natI; rw [List.map_append]
theorem slice33h (R : Option Addr) (n c j : Nat) (h : j ≤ n) (hc : n ≤ c) (w : World) : (Instr.sliceAt 33 (.slice R n c) none (some (.int .i64 (j : Int))) none).run Try.prog w = .ok (.slice R j c) w := by
  have u33 : Try.prog.underlying 33 = some (.slice (Try.prog.elem 33)) := by kernel_rfl
  have s3 : ∀ w, (sizeOf (Try.prog.elem 33)).run Try.prog w = .ok 1 w := fun w => by kernel_rfl
  rw [run_sliceAt_slice (h := u33), run_slice_h (ht := u33) (h0 := by omega) (h2 := by omega), s3]
  simp only [Result.andThen, sliced]
  by_cases e : c = 0
  · rw [if_pos (by omega)]; simp
  · rw [if_neg (by omega)]
    cases R <;> simp [Addr.add]
set_option maxRecDepth 100000 in
set_option maxHeartbeats 8000000 in
theorem needed18 (x : Wat) (A B : Option Addr) (c d : Nat) (w : World) (h64 : Wat64 x) (hW : WatAt w x A B) :
    Calls Try.prog 18 #[x.val A c B d] w fun e w' => ∃ A' c', e = .returned (.tuple #[.slice A' (nedR x).1.length c', I (nedR x).2]) ∧ Twos w' w'.heap.size A' (nedR x).1 ∧ Below w.heap.size w w' := by
  have H20 : Hid (∀ W, Below w.heap.size w W → Calls Try.prog 20 #[x.val A c B d] W fun e w' => e = .returned (.bool (watB x)) ∧ Below W.heap.size W w') := Lib.hid fun W h => watch20 x A B c d W h64 (hW.below h)
  have HB0 : Hid (Below w.heap.size w (w.alloc (.cells #[.slice A x.hb.length c, .slice B x.er.length d, I x.en] 25))) := Lib.hid (by (repeat' (first | assumption | exact Below.refl _ _ | refine Below.drew ?_ | refine below_drewN ?_ _ | refine Below.setCell ?_ (by first | omega | (simp; done) | (simp; omega)) _ | refine Below.alloc ?_ (by first | omega | (simp; done) | (simp; omega)) _ | refine Below.trans ?_ (Below.mono (by assumption) (by first | omega | (simp; done) | (simp; omega))))))
  have HX0 : Hid (Box (w.alloc (.cells #[.slice A x.hb.length c, .slice B x.er.length d, I x.en] 25)) w.heap.size [.slice A x.hb.length c, .slice B x.er.length d, I x.en]) := Lib.hid (Box.new w [.slice A x.hb.length c, .slice B x.er.length d, I x.en] 25)
  have HZ0 : Hid ((w.alloc (.cells #[.slice A x.hb.length c, .slice B x.er.length d, I x.en] 25)).heap.size = w.heap.size + 1) := Lib.hid (by simp)
  cases hwb : watB x
  · have HR : Hid (nedR x = ([], 1)) := Lib.hid (by unfold nedR; rw [hwb]; rfl)
    rw [hwb] at H20
    unfold Wat.val at H20 ⊢
    go_enter Try.func18, Try.ntmps18
    go_wp2_with (first | (go_at_call 20; refine (H20.out _ HB0.out).mono ?_; rintro e w1 ⟨rfl, hB1⟩) | fail)
    refine bodyPost_ret (v := .tuple #[.slice none 0 0, I 1]) (by simp [results, Try.results18, go_sem]) rfl ⟨none, 0, by rw [HR.out]; rfl, by rw [HR.out]; exact fun h => absurd h (by simp), HB0.out.trans (hB1.mono (by simp))⟩
  · have hx := watB_iff.1 hwb
    have hn6 : x.hb.length ≤ 6 := hx.n6
    have HR : Hid (∀ o, nedTo x x.hb.length = some o → nedR x = (o, 0)) := Lib.hid fun o h => by unfold nedR; rw [hwb, show x.n = x.hb.length from rfl, h]; rfl
    have HN : Hid (∀ k, k < x.hb.length → enB x k (srcs x k) = false → nedR x = ([], 4)) := Lib.hid fun k hk h => by unfold nedR; rw [hwb, show x.n = x.hb.length from rfl, nedTo_stop h _ hk]; rfl
    have H35 : Hid (∀ k, k < x.hb.length → ∀ W, Below w.heap.size w W → Calls Try.prog 35 #[x.val A c B d, I k] W fun e w' => ∃ A' c', e = .returned (.slice A' (srcs x k).length c') ∧ w'.ownsRow 0 3 1 (.slice A' (srcs x k).length c') (srcs x k).length (natI (srcs x k)) ∧ Below W.heap.size W w') := Lib.hid fun k hk W h => (sources35c x A B c d k W hx (hW.below h) hk).mono fun e w' ⟨A', c', h1, h2, h3, h4, h5⟩ => ⟨A', c', h1, by rw [natI_map]; exact h5, h3⟩
    have H43 : Hid (∀ k, k < x.hb.length → ∀ (l : List Nat) (S : Option Addr) (cs : Nat) W, Below w.heap.size w W → l.length ≤ 64 → W.ownsRow 0 3 1 (.slice S l.length cs) l.length (natI l) → Calls Try.prog 43 #[x.val A c B d, I k, .slice S l.length cs] W fun e w' => e = .returned (.bool (enB x k l)) ∧ Below W.heap.size W w') := Lib.hid fun k hk l S cs W h hl hS => enough43 x A B c d k S cs l W hx (hW.below h) hk hl (own_ints hS)
    have HST := Lib.hid fun k o => @nedTo_step x k o
    have HLN := Lib.hid fun k => Nat.le_trans (srcs_len x k) (show x.n ≤ 6 from hn6)
    obtain ⟨i0, hi0, hi1, hi2, hi3⟩ := info_parts info27
    obtain ⟨j0, hj0, hj1, hj2, hj3⟩ := info_parts info3
    rw [hwb] at H20
    clear hx hW h64
    unfold Wat.val at H20 H35 H43 ⊢
    obtain ⟨en, hen2⟩ : ∃ en, x.en = en := ⟨_, rfl⟩
    rw [hen2] at H20 H35 H43 HB0 HX0 HZ0 ⊢
    clear hen2
    go_enter Try.func18, Try.ntmps18
    go_wp2_with (first
      | (go_at_call 20; generalize (w.alloc (.cells #[.slice A x.hb.length c, .slice B x.er.length d, I en] 25)) = wa at *; refine (H20.out _ HB0.out).mono ?_; rintro e w1 ⟨rfl, hB1⟩)
      | fail)
    have hza := HZ0.out
    have hz1 := hB1.size
    have HB1 : Hid (Below w.heap.size w w1) := Lib.hid (HB0.out.trans (hB1.mono (by omega)))
    have HX1 := Lib.hid (HX0.out.call hB1)
    clear hB1 HB0 HX0
    go_loopw [4, 5] (fun s4 s5 wr => ∃ (k : Nat) (o : List (Int × Int)), k ≤ x.hb.length ∧ s5 = I k ∧ Below w1.heap.size w1 wr ∧ Hid (nedTo x k = some o) ∧ o.length ≤ 6 * k ∧ Hid (wr.ownsRow w1.heap.size 27 2 s4 o.length (flat2 o))) (fun _ s _ => x.hb.length - (intOf s).toNat)
    case atStart => exact ⟨0, [], by omega, rfl, Below.refl _ _, Lib.hid rfl, by simp, Lib.hid (World.ownsRow_nil _ _ _ _)⟩
    case round =>
      obtain ⟨k, o, hk, rfl, hB, HF, hol, HO⟩ := hrel
      have hzr := hB.size
      have hbw := HB1.out.trans (hB.mono (by omega))
      have hbx := HX1.out.call hB
      obtain ⟨c0, _⟩ := hbx.at_ 0 _ rfl
      obtain ⟨c1, _⟩ := hbx.at_ 1 _ rfl
      obtain ⟨c2, _⟩ := hbx.at_ 2 _ rfl
      by_cases hlt : k < x.hb.length
      · have H35k := Lib.hid (H35.out k hlt _ hbw)
        have H43k := Lib.hid (H43.out k hlt)
        have hsn := HLN.out k
        have p0 : (0 : Int) ≤ (k : Int) := by omega
        have p1 : (k : Int) < (x.hb.length : Int) := by omega
        have HCX : Hid (∀ W, Below wr.heap.size wr W → W.cell? ⟨w.heap.size, 0, none⟩ = some (.slice A x.hb.length c) ∧ W.cell? ⟨w.heap.size, 1, none⟩ = some (.slice B x.er.length d) ∧ W.cell? ⟨w.heap.size, 2, none⟩ = some (I en)) := Lib.hid fun W hW => by
          have hx := HX1.out.call (hB.trans (hW.mono hzr))
          exact ⟨(hx.at_ 0 _ rfl).1, (hx.at_ 1 _ rfl).1, (hx.at_ 2 _ rfl).1⟩
        cases heb : enB x k (srcs x k) with
        | false =>
          have HRR := Lib.hid (HN.out k hlt heb)
          have H43f := Lib.hid (H43k.out (srcs x k))
          rw [heb] at H43f
          clear heb H43 H35 HO HST HLN H43k
          go_wp2_with (first
            | (go_at_call 35; refine H35k.out.mono ?_; rintro e w3 ⟨A6, c6, rfl, hI6, hB3⟩; obtain ⟨e0, e1, e2⟩ := HCX.out _ hB3)
            | (go_at_call 43; refine (H43f.out A6 c6 w3 (hbw.trans (hB3.mono hbw.size)) (by omega) hI6).mono ?_; rintro e w4 ⟨rfl, hB4⟩)
            | fail)
          refine bodyPost_ret (v := .tuple #[.slice none 0 0, I 4]) (by simp [results, Try.results18, go_sem]) rfl ?_
          have hB5 := hbw.trans (hB3.mono hbw.size)
          have hBF := hB5.trans (hB4.mono hB5.size)
          have hRR := HRR.out
          refine ⟨none, ?_⟩
          first
            | exact ⟨0, by rw [hRR]; rfl, by rw [hRR]; exact fun h => absurd h (by simp), hBF⟩
            | exact ⟨⟨0, by rw [hRR]; rfl⟩, by rw [hRR]; exact fun h => absurd h (by simp), hBF⟩
        | true =>
          have HST1 := Lib.hid (HST.out k o HF.out heb)
          have H43f := Lib.hid (H43k.out (srcs x k))
          rw [heb] at H43f
          clear heb H43 H35
          go_wp2_with (first
            | (go_at_call 35; refine H35k.out.mono ?_; rintro e w3 ⟨A6, c6, rfl, hI6, hB3⟩; obtain ⟨e0, e1, e2⟩ := HCX.out _ hB3)
            | (go_at_call 43; refine (H43f.out A6 c6 w3 (hbw.trans (hB3.mono hbw.size)) (by omega) hI6).mono ?_; rintro e w4 ⟨rfl, hB4⟩)
            | fail)
          have hB34 := hB3.trans (hB4.mono hB3.size)
          have HB4 : Hid (Below w1.heap.size w1 w4) := Lib.hid (hB.trans (hB34.mono hzr))
          have HO4 := Lib.hid (grown_own HO.out hB34)
          have HI4 := Lib.hid (grown_own hI6 hB4)
          have HNE := Lib.hid (nedP_all x k)
          have HNS0 := Lib.hid fun j => @nedP_succ x k j
          have HNL := Lib.hid fun j => nedP_len x k j
          have HNZ : Hid (nedP x k 0 = []) := Lib.hid rfl
          clear HO hB3 hI6 hB4 c0 c1 c2 hbx H35k e0 e1 e2 hB34 H43f HCX
          go_loopw [4, 7] (fun s4 s7 wi => ∃ j : Nat, j ≤ (srcs x k).length ∧ s7 = I j ∧ Below w1.heap.size w1 wi ∧ Hid (wi.ownsRow 0 3 1 (.slice A6 (srcs x k).length c6) (srcs x k).length (natI (srcs x k))) ∧ Hid (wi.ownsRow w1.heap.size 27 2 s4 (o.length + (nedP x k j).length) (flat2 (o ++ lnk k (nedP x k j))))) (fun _ s _ => (srcs x k).length - (intOf s).toNat)
          case atStart => exact ⟨0, by omega, rfl, HB4.out, HI4, Lib.hid (by rw [HNZ.out]; simpa [lnk] using HO4.out)⟩
          case round =>
            clear HO4 HB4 HI4
            obtain ⟨j, hj, rfl, hBj, HI, HOj⟩ := hrel
            have hzi := hBj.size
            have hbwj := HB1.out.trans (hBj.mono HB1.out.size)
            have hzwi : w.heap.size ≤ wr.heap.size := hbwj.size
            by_cases hlj : j < (srcs x k).length
            · have hc6 := own_cap HI.out
              have hform := own_form HI.out
              rcases hform with ⟨_, h0⟩ | ⟨g6, _, hv6, _, hg6, _, _⟩
              · omega
              cases hv6
              have HCE := Lib.hid (natI_cells HI.out)
              have hcj := HCE.out j (I ((srcs x k)[j] : Nat)) (by unfold natI; rw [List.getElem?_map, List.getElem?_eq_getElem hlj]; rfl)
              have HCA : Hid (∀ W, Below wr.heap.size wr W → W.cell? ⟨g6, j, none⟩ = some (I ((srcs x k)[j] : Nat)) ∧ W.cell? ⟨w.heap.size, 0, none⟩ = some (.slice A x.hb.length c) ∧ W.cell? ⟨w.heap.size, 1, none⟩ = some (.slice B x.er.length d) ∧ W.cell? ⟨w.heap.size, 2, none⟩ = some (I en)) := Lib.hid fun W hW => by
                have hx := HX1.out.call (hBj.trans (hW.mono hzi))
                exact ⟨(hW.cell (p := ⟨g6, j, none⟩) hg6).trans hcj, (hx.at_ 0 _ rfl).1, (hx.at_ 1 _ rfl).1, (hx.at_ 2 _ rfl).1⟩
              have HNSj := Lib.hid (HNS0.out j hlj)
              have hnl := HNL.out j
              obtain ⟨R', hR'⟩ : ∃ R', (if c6 = j + 1 then (some ⟨g6, 0, none⟩ : Option Addr) else (some ⟨g6, 0, none⟩ : Option Addr).map (·.add (j + 1))) = R' := ⟨_, rfl⟩
              have h33 := fun W => slice33 (some ⟨g6, 0, none⟩) (srcs x k).length c6 j hlj W
              have h33h := fun W => slice33h (some ⟨g6, 0, none⟩) (srcs x k).length c6 j (by omega) hc6 W
              rw [hR'] at h33
              have HRC : Hid (∀ W, Below wr.heap.size wr W → 0 < (srcs x k).length - (j + 1) → ∃ ad, R' = some ad ∧ ∀ i u, (natI ((srcs x k).drop (j + 1)))[i]? = some u → W.cell? (ad.add i) = some u) := Lib.hid fun W hW h0 => by
                rw [← hR', if_neg (by omega)]
                refine ⟨⟨g6, 0 + (j + 1), none⟩, by simp [Addr.add], fun i u hu => ?_⟩
                rw [Addr.add_lit]
                have h1 := HCE.out _ u (natI_drop hu)
                rw [show 0 + (j + 1) + i = j + 1 + i by omega]
                exact (hW.cell (p := ⟨g6, j + 1 + i, none⟩) hg6).trans h1
              have HLC : Hid (∀ W, Below wr.heap.size wr W → 0 < j → ∃ ad, (some ⟨g6, 0, none⟩ : Option Addr) = some ad ∧ ∀ i u, (natI ((srcs x k).take j))[i]? = some u → W.cell? (ad.add i) = some u) := Lib.hid fun W hW h0 => by
                refine ⟨_, rfl, fun i u hu => ?_⟩
                rw [Addr.add_lit]
                rw [Nat.zero_add]
                exact (hW.cell (p := ⟨g6, i, none⟩) hg6).trans (HCE.out _ u (natI_take hu))
              have HTL : Hid ((natI ((srcs x k).take j)).length = j * 1) := Lib.hid (by rw [natI_len, List.length_take]; omega)
              have HDL : Hid ((natI ((srcs x k).drop (j + 1))).length = ((srcs x k).length - (j + 1)) * 1) := Lib.hid (by rw [natI_len, List.length_drop]; omega)
              have HRL : Hid (((srcs x k).take j ++ (srcs x k).drop (j + 1)).length = j + ((srcs x k).length - (j + 1))) := Lib.hid (by rw [List.length_append, List.length_take, List.length_drop]; omega)
              have HRN : Hid (natI ((srcs x k).take j ++ (srcs x k).drop (j + 1)) = natI ((srcs x k).take j) ++ natI ((srcs x k).drop (j + 1))) := Lib.hid (natI_app _ _)
              have H43r := Lib.hid (H43k.out ((srcs x k).take j ++ (srcs x k).drop (j + 1)))
              rw [HRL.out] at H43r
              generalize (srcs x k)[j] = f at *
              obtain ⟨r, hr⟩ : ∃ r, enB x k ((srcs x k).take j ++ (srcs x k).drop (j + 1)) = r := ⟨_, rfl⟩
              rw [hr] at H43r HNSj
              have hwj : IntKind.i64.wrap ((j : Int) + 1) = (j : Int) + 1 := IntWalk.i64_in _ (by omega)
              have r0 : (0 : Int) ≤ (j : Int) := by omega
              have r1 : (j : Int) < ((srcs x k).length : Int) := by omega
              have HOJ := HOj
              have HIJ := HI
              clear hR' hcj hr HCE HI HOj HNS0 HNE HNL HNZ H43k
              go_wp2_with (fail)
              refine (wpIn_wide (n := 9)).1 ?_
              refine wpIn_region_plan (Plan.ons [1, 2, 3, 5, 6, 7, 8, 0, 4, 9, 10] .fin) [1, 2, 3, 5, 6, 7, 8] (fun _ => True) [] rfl (by kernel_rfl) (by kernel_rfl) (fun _ d _ _ _ h => by cases d <;> exact h) trivial ?_
              (refine ordQ_held (.slice (some ⟨g6, 0, none⟩) (srcs x k).length c6) rfl rfl rfl rfl (fun W' hC' => ?_) (fun K hK => ?_); (focus (obtain _ := hC'; go_simp; try exact ⟨rfl, rfl⟩)); go_simp; refine hK _ ?_; clear hK K)
              (refine ordQ_held (I j) rfl rfl rfl rfl (fun W' hC' => ?_) (fun K hK => ?_); (focus (obtain _ := hC'; go_simp; try exact ⟨rfl, rfl⟩)); go_simp; refine hK _ ?_; clear hK K)
              (refine ordQ_held (.slice (some ⟨g6, 0, none⟩) j c6) rfl rfl rfl rfl (fun W' hC' => ?_) (fun K hK => ?_); (focus (obtain _ := hC'; go_simp; try exact ⟨rfl, rfl⟩)); go_simp; refine hK _ ?_; clear hK K)
              (refine ordQ_held (.slice (some ⟨g6, 0, none⟩) (srcs x k).length c6) rfl rfl rfl rfl (fun W' hC' => ?_) (fun K hK => ?_); (focus (obtain _ := hC'; go_simp; try exact ⟨rfl, rfl⟩)); go_simp; refine hK _ ?_; clear hK K)
              (refine ordQ_held (I j) rfl rfl rfl rfl (fun W' hC' => ?_) (fun K hK => ?_); (focus (obtain _ := hC'; go_simp; try exact ⟨rfl, rfl⟩)); go_simp; refine hK _ ?_; clear hK K)
              (refine ordQ_held (I ((j : Int) + 1)) rfl rfl rfl rfl (fun W' hC' => ?_) (fun K hK => ?_); (focus (obtain _ := hC'; go_simp; try exact ⟨rfl, rfl⟩)); go_simp; refine hK _ ?_; clear hK K)
              (refine ordQ_held (.slice R' ((srcs x k).length - (j + 1)) (c6 - (j + 1))) rfl rfl rfl rfl (fun W' hC' => ?_) (fun K hK => ?_); (focus (obtain _ := hC'; go_simp; try exact ⟨rfl, rfl⟩)); go_simp; refine hK _ ?_; clear hK K)
              refine ordQ_hv rfl rfl rfl (fun K hK => ?_)
              gi_wp2
              refine hK _ _ (fun _ => trivial) ?_
              clear hK K
              have hBa : Below wr.heap.size wr (wr.alloc (.cells #[] 3)).drew := (below1 wr _).drew
              have hra : ((wr.alloc (.cells #[] 3)).drew).ownsRow wr.heap.size 3 1 (.slice (some ⟨wr.heap.size, 0, none⟩) 0 0) 0 [] := (World.ownsRow_made wr #[] 0 (Nat.le_refl _) (Nat.zero_le _) (by simp)).drew
              refine ordQ_hv rfl rfl rfl (fun K hK => ?_)
              refine opIn_append_any rfl _ _ _ 33 rfl wr.heap.size 3 j0 (I 0) 1 8 Try.underlying33 hj0 hj1 hj2 hj3 rfl (by decide) _ _ _ rfl hra (some ⟨g6, 0, none⟩) j c6 (natI ((srcs x k).take j)) rfl HTL.out (HLC.out _ hBa) natI_one (by unfold maxLen; omega) (by omega) hBa.size ?_
              intro v30 w30 hown30 hg30
              have hB30 : Below wr.heap.size wr w30 := hBa.grown hg30 hBa.size (fun g e => (hra.lt g e).1)
              refine hK _ _ (fun _ => trivial) ?_
              clear hK K
              refine ordQ_hv rfl rfl rfl (fun K hK => ?_)
              refine opIn_append_any rfl _ _ _ 33 rfl wr.heap.size 3 j0 (I 0) 1 8 Try.underlying33 hj0 hj1 hj2 hj3 rfl (by decide) _ _ _ rfl hown30 R' ((srcs x k).length - (j + 1)) (c6 - (j + 1)) (natI ((srcs x k).drop (j + 1))) rfl HDL.out (HRC.out _ hB30) natI_one (by unfold maxLen; omega) (by omega) hB30.size ?_
              intro v31 w31 hown31 hg31
              have hB31 : Below wr.heap.size wr w31 := hB30.grown hg31 hB30.size (fun g e => (hown30.lt g e).1)
              refine hK _ _ (fun _ => trivial) ?_
              clear hK K
              rw [Nat.zero_add, List.nil_append] at hown31
              obtain ⟨A9, k9, c9, hv9⟩ := own_slice hown31
              obtain rfl := own_lenS hown31 hv9
              subst hv9
              have HR9 := Lib.hid (own_low hown31)
              rw [← HRN.out] at HR9
              (refine ordQ_li rfl rfl rfl (fun K hK => ?_); go_simp; refine hK _ ?_; clear hK K)
              refine ordQ_fin ?_
              have HB31 := Lib.hid hB31
              obtain ⟨a0, a1, a2, a3⟩ := HCA.out _ hB31
              have H43s := Lib.hid (H43r.out A9 c9 w31 (hbwj.trans (hB31.mono hzwi)) (by omega) HR9.out)
              clear hown31 hg31 hB31 hown30 hg30 hB30 hra hBa HRC HLC HTL HDL HRN H43r HR9 h33 h33h HRL
              cases r with
              | true =>
                have HNT : Hid (nedP x k (j + 1) = nedP x k j) := Lib.hid (by rw [HNSj.out]; simp)
                go_wp2_with (first
                  | (go_at_call 43; refine H43s.out.mono ?_; rintro e w40 ⟨rfl, hB40⟩)
                  | fail)
                have hB41 := HB31.out.trans (hB40.mono HB31.out.size)
                have HB41 : Hid (Below w1.heap.size w1 w40) := Lib.hid (hBj.trans (hB41.mono hzi))
                have HI41 := Lib.hid (grown_own HIJ.out hB41)
                have HO41 : Hid (w40.ownsRow w1.heap.size 27 2 u4 (o.length + (nedP x k (j + 1)).length) (flat2 (o ++ lnk k (nedP x k (j + 1))))) := Lib.hid (by rw [HNT.out]; exact grown_own HOJ.out hB41)
                clear hB40 hB41 a0 a1 a2 a3 H43s
                go_roundw
                case rel => first | exact ⟨j + 1, by omega, by go_num, HB41.out, HI41, HO41⟩ | ((repeat apply Exists.intro); refine ⟨?_, rfl⟩; exact ⟨j + 1, by omega, by go_num, HB41.out, HI41, HO41⟩)
                case measure => first | (simp [intOf]; done) | (simp [intOf]; omega)
              | false =>
                have HNT : Hid (nedP x k (j + 1) = nedP x k j ++ [f]) := Lib.hid (by rw [HNSj.out]; simp)
                have HNF : Hid (flat2 (o ++ lnk k (nedP x k (j + 1))) = flat2 (o ++ lnk k (nedP x k j)) ++ [I f, I k]) := Lib.hid (by rw [HNT.out, lnk_one])
                have HNG : Hid ((nedP x k (j + 1)).length = (nedP x k j).length + 1) := Lib.hid (by rw [HNT.out]; simp)
                go_wp2_with (first
                  | (go_at_call 43; refine H43s.out.mono ?_; rintro e w40 ⟨rfl, hB40⟩; have hB41 := HB31.out.trans (hB40.mono HB31.out.size); have HB41 : Hid (Below w1.heap.size w1 w40) := Lib.hid (hBj.trans (hB41.mono hzi)); have hz41 := HB41.out.size; have HI41 := Lib.hid (grown_own HIJ.out hB41); have HO41 := Lib.hid (grown_own HOJ.out hB41); have hs41 := HO41.out.lt; obtain ⟨b0, b1, b2, b3⟩ := HCA.out _ hB41; have HOa := Lib.hid (HO41.out.alloc (.cells #[I f, I k] 27)); have HCN := Lib.hid (cells_new w40 [I f, I k] 27); clear hB40 hB41)
                  | (at_builtin; refine wpList_append_own _ rfl _ _ 38 rfl w1.heap.size 27 i0 (.agg #[I 0, I 0]) 2 16 Try.underlying38 hi0 hi1 hi2 hi3 rfl (by decide) _ _ _ rfl HOa.out ⟨w40.heap.size, 0, none⟩ 1 1 [I f, I k] rfl rfl HCN.out (by simp [Value.oneCell']) (by unfold maxLen; omega) (by omega) (by simp; omega) ?_; intro v' w6 hown6 hg6' _)
                  | fail)
                have HB6 : Hid (Below w1.heap.size w1 w6) := Lib.hid ((HB41.out.alloc hz41 _).grown hg6' (by simp; omega) (fun g e => (hs41 g e).1))
                have HI8 := Lib.hid (keep_grownE (by decide) HOa.out hg6' (HI41.out.alloc (.cells #[I f, I k] 27)))
                have HO6 : Hid (w6.ownsRow w1.heap.size 27 2 v' (o.length + (nedP x k (j + 1)).length) (flat2 (o ++ lnk k (nedP x k (j + 1))))) := Lib.hid (by rw [HNF.out, HNG.out]; exact hown6)
                clear hown6 hg6' a0 a1 a2 a3 b0 b1 b2 b3 H43s
                go_wp2_with (fail)
                go_roundw
                case rel => first | exact ⟨j + 1, by omega, by go_num, HB6.out, HI8, HO6⟩ | ((repeat apply Exists.intro); refine ⟨?_, rfl⟩; exact ⟨j + 1, by omega, by go_num, HB6.out, HI8, HO6⟩)
                case measure => first | (simp [intOf]; done) | (simp [intOf]; omega)
            · obtain rfl : j = (srcs x k).length := by omega
              have HOE : Hid (wr.ownsRow w1.heap.size 27 2 u4 (o ++ lnk k (nedT x k)).length (flat2 (o ++ lnk k (nedT x k)))) := Lib.hid (by have h := HOj.out; rw [HNE.out] at h; rw [List.length_append, lnk_len]; exact h)
              have hnl := HNL.out (srcs x k).length
              rw [HNE.out] at hnl
              have hol2 : (o ++ lnk k (nedT x k)).length ≤ 6 * (k + 1) := by rw [List.length_append, lnk_len]; omega
              clear HOj
              go_wp2_with (fail)
              go_roundw
              case rel => first | exact ⟨k + 1, _, by omega, by go_num, hBj, HST1, hol2, HOE⟩ | ((repeat apply Exists.intro); refine ⟨?_, rfl⟩; exact ⟨k + 1, _, by omega, by go_num, hBj, HST1, hol2, HOE⟩)
              case measure => first | (simp [intOf]; done) | (simp [intOf]; omega)
      · obtain rfl : k = x.hb.length := by omega
        obtain ⟨A', c', hv, hT, _⟩ := twos_own HO.out rfl
        subst hv
        have HRF := Lib.hid (HR.out o HF.out)
        have HT := Lib.hid hT
        clear HO hT
        go_wp2_with (fail)
        refine bodyPost_ret (v := .tuple #[.slice A' o.length c', I 0]) (by simp [results, Try.results18, go_sem]) rfl ⟨A', c', by rw [HRF.out], by rw [HRF.out]; exact HT.out, hbw⟩
end Go.Proofs.Ytijgfdncocjncaa
