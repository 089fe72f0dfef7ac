/- newTree. -/
import Derived.Test.YtgdilbilhajgaaaDoorE5
namespace Go.Proofs.YtgdilbilhajgaaaDoor
set_option linter.unusedVariables false
set_option linter.unusedSimpArgs false
open Go Go.RowKit

theorem info26 : (Tryd.prog.info? 26).map (fun i => (i.zero, i.size, i.bytes)) = some (some (.slice none 0 0), 1, 24) := by kernel_rfl

/-- How memory stands when k mains have been read. -/
structure NT (W : World) (N T Fb mb : Nat) (A : Option Addr) (c : Nat) (m : List (Int × Int)) (k : Nat) : Prop where
  hT : T < W.heap.size
  t0 : W.cell? ⟨T, 0, none⟩ = some (.slice A m.length c)
  t1 : W.cell? ⟨T, 1, none⟩ = some (.slice (some ⟨Fb, 0, none⟩) m.length m.length)
  tz : ∀ j, j < 2 → W.frozen? ⟨T, j + 2, none⟩ = false ∧ ∃ u, W.cell? ⟨T, j + 2, none⟩ = some u
  b0 : W.cell? ⟨mb, 0, none⟩ = some (.slice A m.length c)
  rows : ∃ R, KRows W N m.length Fb R (kidsTo m k) ∧ ∀ i, i < m.length → (R i).ownBlock ≠ some T

theorem cell_one_new'' (w : World) (v : Value) (t : TypeId) : ∀ j u, [v][j]? = some u → (w.alloc (.cells #[v] t)).drew.cell? ((⟨w.heap.size, 0, none⟩ : Addr).add j) = some u := fun j u hj => by
  rcases j with _ | j
  · simp at hj; subst hj; simp [Addr.add, go_sem]
  · simp at hj
theorem kidsTo_len (m : List (Int × Int)) (k i : Nat) : (kidsTo m k i).length ≤ k := by have := List.length_filter_le (fun j => decide (parW m j = (i : Int))) (List.range k); simpa [kidsTo] using this
/-- A row of numbers, in a world that has the same cells but in one block. -/
theorem KRows.ints {W W' : World} {N n Fb T : Nat} {R : Nat → Value} {L : Nat → List Nat} (h : KRows W N n Fb R L) (hz : W'.heap.size = W.heap.size) (hc : ∀ (b o : Nat), b ≠ T → W'.cell? ⟨b, o, .none⟩ = W.cell? ⟨b, o, .none⟩) (hT : ∀ i, i < n → (R i).ownBlock ≠ some T) (hF : Fb ≠ T) (i : Nat) (hi : i < n) :
    ∃ RA rc, W'.cell? ⟨Fb, i, .none⟩ = some (.slice RA (L i).length rc) ∧ (L i).length ≤ rc ∧ rc ≤ 9223372036854775807 ∧ Ints W' W'.heap.size RA ((L i).map fun k : Nat => (k : Int)) := by
  have hcell := (hc Fb i hF).trans (h.cell i hi).1
  have hown := h.own i hi
  rcases own_form hown with ⟨e, h0⟩ | ⟨g, cap, e, _, hg, h1, h2⟩
  · refine ⟨.none, 0, by rw [hcell, e, h0], by omega, by omega, fun hp => ?_⟩
    simp [h0] at hp
  · refine ⟨_, cap, by rw [hcell, e], h1, h2, fun hp => ⟨g, 0, rfl, by omega, fun k hk => ?_⟩⟩
    have hgT : g ≠ T := fun e2 => hT i hi (by rw [e, e2]; rfl)
    have hk' : k < (L i).length := by simpa using hk
    have := hown.cells (g := g) (by rw [e]; rfl) k (I ((L i)[k] : Nat)) (by simp [hk'])
    rw [Addr.add_lit, Nat.zero_add] at this
    rw [Nat.zero_add, hc g k hgT, this]
    simp
theorem krows_made {W : World} {N n Fb cap : Nat} (hown : W.ownsRow N 26 1 (.slice (some ⟨Fb, 0, none⟩) n cap) n (madeCells (Value.slice none 0 0).cells (n * 1)).toList) : KRows W N n Fb (fun _ => .slice none 0 0) (fun _ => []) := by
  have hlt := hown.lt Fb rfl
  have hb : ∃ cur : Array Value, W.heap[Fb]? = some (.cells cur 26 (0, 0)) := by
    rcases hown.2 with ⟨h, _⟩ | ⟨g, cap', cur, h1, _, h3, _⟩
    · cases h
    · injection h1 with e1
      injection e1 with e1
      injection e1 with e1
      subst e1
      exact ⟨cur, h3⟩
  obtain ⟨cur, hcur⟩ := hb
  refine ⟨hlt.2, fun i hi => ⟨?_, by simp [World.frozen?, hcur]⟩, fun i hi => ⟨by simp, .inl ⟨rfl, rfl⟩⟩, fun i hi => by simp [Value.ownBlock], fun i j g _ _ _ h => by simp [Value.ownBlock] at h⟩
  have := hown.cells (g := Fb) rfl i (.slice none 0 0) (by simp [madeCells, Value.cells, hi, Nat.mod_one])
  rwa [Addr.add_lit, Nat.zero_add] at this

theorem NT.lt {W : World} {N T Fb mb c k : Nat} {A : Option Addr} {m : List (Int × Int)} (h : NT W N T Fb mb A c m k) : mb < W.heap.size := by
  rcases Nat.lt_or_ge mb W.heap.size with h' | h'
  · exact h'
  · have := h.b0; simp [World.cell?, Array.getElem?_eq_none h'] at this
theorem NT.call {W W' : World} {N T Fb mb c k : Nat} {A : Option Addr} {m : List (Int × Int)} (h : NT W N T Fb mb A c m k) (hB : Below W.heap.size W W') : NT W' N T Fb mb A c m k := by
  obtain ⟨R, hR, hRT⟩ := h.rows
  refine ⟨Nat.lt_of_lt_of_le h.hT hB.size, (hB.cell (p := ⟨_, _, none⟩) h.hT).trans h.t0, (hB.cell (p := ⟨_, _, none⟩) h.hT).trans h.t1, fun j hj => ⟨(hB.frozen (p := ⟨_, _, none⟩) h.hT).trans (h.tz j hj).1, ?_⟩, (hB.cell (p := ⟨_, _, none⟩) h.lt).trans h.b0, R, hR.call hB, hRT⟩
  obtain ⟨u, hu⟩ := (h.tz j hj).2
  exact ⟨u, (hB.cell (p := ⟨_, _, none⟩) h.hT).trans hu⟩
theorem NT.alloc {W : World} {N T Fb mb c k : Nat} {A : Option Addr} {m : List (Int × Int)} (h : NT W N T Fb mb A c m k) (o : Obj) : NT (W.alloc o) N T Fb mb A c m k := h.call ((Below.refl _ _).alloc (Nat.le_refl _) o)
theorem NT.next0 {W : World} {N T Fb mb c k : Nat} {A : Option Addr} {m : List (Int × Int)} (h : NT W N T Fb mb A c m k) (hk : k = 0) (hp : parW m k = -1) (o : Obj) : NT (W.alloc o) N T Fb mb A c m (k + 1) := by
  have hB : Below W.heap.size W (W.alloc o) := (Below.refl _ _).alloc (Nat.le_refl _) o
  obtain ⟨R, hR, hRT⟩ := h.rows
  refine ⟨Nat.lt_of_lt_of_le h.hT hB.size, (hB.cell (p := ⟨_, _, none⟩) h.hT).trans h.t0, (hB.cell (p := ⟨_, _, none⟩) h.hT).trans h.t1, fun j hj => ⟨(hB.frozen (p := ⟨_, _, none⟩) h.hT).trans (h.tz j hj).1, ?_⟩, (hB.cell (p := ⟨_, _, none⟩) h.lt).trans h.b0, R, ?_⟩
  · obtain ⟨u, hu⟩ := (h.tz j hj).2
    exact ⟨u, (hB.cell (p := ⟨_, _, none⟩) h.hT).trans hu⟩
  · have e : kidsTo m (k + 1) = kidsTo m k := by
      funext i
      rw [kidsTo_succ, if_neg (by omega)]
    rw [e]
    exact ⟨hR.alloc o, hRT⟩

set_option maxRecDepth 100000 in
set_option maxHeartbeats 4000000 in
theorem newTree53 (A : Option Addr) (c : Nat) (m : List (Int × Int)) (w : World) (hm : Pairs w w.heap.size A m) (hml : m.length ≤ 9223372036854775807) :
    Calls Tryd.prog 53 #[.slice A m.length c] w (NTPost m A c w) := by
  cases hn : inB (m.length : Int) 1 16 with
  | false =>
    have hno : ¬ MOk m := fun h => inB_false.1 hn ⟨by have := h.pos; omega, by have := h.le; omega⟩
    go_enter Tryd.func53, Tryd.ntmps53
    go_wp2_with (go_at_call 34; refine (within34 _ _ _ _).mono ?_; rintro e w1 ⟨rfl, rfl⟩)
    go_ret
    exact ⟨by (repeat' (first | assumption | exact Below.refl _ _ | refine Below.drew ?_ | refine below_drewN ?_ _ | refine Below.setCell ?_ (by first | omega | (simp; done) | (simp; omega)) _ | refine Below.alloc ?_ (by first | omega | (simp; done) | (simp; omega)) _ | refine Below.trans ?_ (Below.mono (by assumption) (by first | omega | (simp; done) | (simp; omega))))), .inr ⟨hno, rfl⟩⟩
  | true =>
    obtain ⟨hn1, hn2⟩ : 1 ≤ m.length ∧ m.length ≤ 16 := by have := inB_true.1 hn; omega
    obtain ⟨i0, hi0, hi1, hi2, hi3⟩ := info_parts info26
    have hu : Tryd.prog.underlying 81 = some (.slice 26) := Tryd.underlying81
    have HU := Lib.hid hu; have HI0 := Lib.hid hi0; have HI1 := Lib.hid hi1; have HI2 := Lib.hid hi2; have HI3 := Lib.hid hi3
    clear hu hi0 hi1 hi2 hi3
    obtain ⟨j0, hj0, hj1, hj2, hj3⟩ := info_parts info3
    have hu2 : Tryd.prog.underlying 26 = some (.slice 3) := Tryd.underlying26
    have HU2 := Lib.hid hu2; have HJ0 := Lib.hid hj0; have HJ1 := Lib.hid hj1; have HJ2 := Lib.hid hj2; have HJ3 := Lib.hid hj3
    clear hu2 hj0 hj1 hj2 hj3
    go_enter Tryd.func53, Tryd.ntmps53
    go_wp2_with (go_at_call 34; refine (within34 _ _ _ _).mono ?_; rintro e w1 ⟨rfl, rfl⟩)
    refine (wpIn_wide (n := 9)).1 ?_
    refine wpIn_region_plan (Plan.ons [0, 1, 2, 3, 4, 5, 6] .fin) [0] (fun W => W.cell? ⟨w.heap.size, 0, none⟩ = some (.slice A m.length c)) [5] rfl (by kernel_rfl) (by kernel_rfl) (fun _ d _ _ _ h => by cases d <;> exact h) (by simp [go_sem]) ?_
    (refine ordQ_held (.slice A m.length c) rfl rfl rfl rfl (fun W' hC' => ?_) (fun K hK => ?_); (focus (obtain e0 := hC'; go_simp; try exact ⟨rfl, rfl⟩)); go_simp; refine hK _ ?_; clear hK K)
    iterate 2 (refine ordQ_li rfl rfl rfl (fun K hK => ?_); go_simp; refine hK _ ?_; clear hK K)
    refine ordQ_hv rfl rfl rfl (fun K hK => ?_)
    refine opIn_make_full rfl _ _ _ 81 rfl (w.heap.size + 1) 26 i0 (.slice none 0 0) 1 HU.out HI0.out HI1.out HI2.out .i64 .i64 m.length rfl rfl (by rw [HI3.out]; omega) (by unfold maxLen; omega) (by simp) ?_
    intro w1 hown hg
    have hB1 : Below (w.heap.size + 1) (w.alloc (.cells #[.slice A m.length c] 22)) w1 := (Below.refl _ _).drew.grown hg (by simp) (fun k e => by cases e)
    have hK1 := krows_made hown
    rw [show (w.alloc (.cells #[.slice A m.length c] 22)).drew.heap.size = w.heap.size + 1 by simp] at *
    have hz1 : w.heap.size + 1 < w1.heap.size := hK1.lt
    have HKR := Lib.hid hK1
    clear hown hK1 hg
    have hc1 : w1.cell? ⟨w.heap.size, 0, none⟩ = some (.slice A m.length c) := (hB1.cell (p := ⟨_, _, none⟩) (by simp)).trans (by simp [go_sem])
    refine hK _ _ (fun _ => hc1) ?_
    clear hK K
    (refine ordQ_li rfl rfl rfl (fun K hK => ?_); go_simp; refine hK _ ?_; clear hK K)
    refine ordQ_hv rfl rfl rfl (fun K hK => ?_)
    gi_wp2
    refine hK _ _ (fun h => by cases h) ?_
    clear hK K
    (refine ordQ_li rfl rfl rfl (fun K hK => ?_); go_simp; refine hK _ ?_; clear hK K)
    refine ordQ_fin ?_
    obtain ⟨T, hTe⟩ : ∃ T, T = w1.heap.size := ⟨_, rfl⟩
    obtain ⟨w2, hw2⟩ : ∃ w2, w2 = w1.alloc (.cells #[.slice A m.length c, .slice (some ⟨w.heap.size + 1, 0, none⟩) m.length m.length, Value.nilFunc, Value.nilFunc] 87) := ⟨_, rfl⟩
    rw [← hw2, ← hTe]
    have hNT : Hid (NT w2 (w.heap.size + 1) T (w.heap.size + 1) w.heap.size A c m 0) := Lib.hid (by
      subst hw2 hTe
      refine ⟨by simp, by simp [go_sem], by simp [go_sem], fun j hj => ⟨by simp [go_sem], ?_⟩, ?_, ⟨_, HKR.out.alloc _, fun i hi => by simp [Value.ownBlock]⟩⟩
      · rcases j with _ | _ | j <;> simp [go_sem] <;> omega
      · rw [World.cell?_alloc_lt _ _ _ (by simp; omega)]; exact hc1)
    have hBw : Below w.heap.size w w2 := by
      subst hw2
      exact (((Below.refl _ w).alloc (Nat.le_refl _) _).trans (hB1.mono (Nat.le_succ _))).alloc (by omega) _
    have hTw : w.heap.size + 1 < T := by omega
    clear hw2 hTe hB1 hc1 HKR hz1
    have hc2 := hNT.out.b0
    have hzz := hBw.size
    have hmb : w.heap.size < w2.heap.size := by have := hNT.out.hT; omega
    go_wp2_with (fail)
    have hTN : w.heap.size ≤ T := by omega
    have hFN : w.heap.size ≤ w.heap.size + 1 := by omega
    have hFN2 : w.heap.size < w.heap.size + 1 := by omega
    obtain ⟨N, hNe⟩ : ∃ N, N = w.heap.size + 1 := ⟨_, rfl⟩
    have hNT' : Hid (NT w2 N T (w.heap.size + 1) w.heap.size A c m 0) := by rw [hNe]; exact hNT
    have hNw : w.heap.size < N := by omega
    have hNT2 : N ≤ T := by omega
    clear hNT hNe
    generalize w.heap.size + 1 = Fb at *
    obtain ⟨mb, hmbe⟩ : ∃ mb, mb = w.heap.size := ⟨_, rfl⟩
    have hc2' : w2.cell? ⟨mb, 0, none⟩ = some (.slice A m.length c) := by rw [hmbe]; exact hc2
    go_loopw [18] (fun s wr => ∃ k : Nat, k ≤ m.length ∧ s = I k ∧ Below w.heap.size w wr ∧ Hid (NT wr N T Fb mb A c m k) ∧ Hid (∀ j, j < k → mOk1 m j)) (fun s _ => m.length - (intOf s).toNat)
    case atStart => exact ⟨0, Nat.zero_le _, rfl, hBw, by rw [hmbe]; exact hNT', Lib.hid fun j hj => by omega⟩
    case round =>
      clear hNT' hBw hc2 hzz hmb
      obtain ⟨k, hk, rfl, hB, HNT, HALL⟩ := hrel
      have hz := hB.size
      have hTz := HNT.out.hT
      by_cases hlt : k < m.length
      · obtain ⟨b, off, rfl, hb, hcs⟩ := (hm.below hB) (by omega)
        obtain ⟨x0, x1⟩ := hcs k hlt
        have e0 : m[k].1 = parW m k := by simp [parW, List.getD, hlt]
        have e1 : m[k].2 = limW m k := by simp [limW, List.getD, hlt]
        rw [e0] at x0
        rw [e1] at x1
        clear hcs e0 e1
        have hub : (k : Int) ≤ 15 := by omega
        have key : ((k = 0 ∧ (((k : Int) == 0) = true ∧ decide ((0 : Int) < (k : Int)) = false ∧ decide (0 < k) = false)) ∨ (0 < k ∧ (((k : Int) == 0) = false ∧ decide ((0 : Int) < (k : Int)) = true ∧ decide (0 < k) = true))) := by
          rcases Nat.eq_zero_or_pos k with h | h
          · subst h; exact .inl ⟨rfl, rfl, rfl, rfl⟩
          · exact .inr ⟨h, by simp; omega, by simpa using h, by simpa using h⟩
        rcases key with ⟨hk0, hz1, hz2, hz3⟩ | ⟨hk0, hz1, hz2, hz3⟩
        · have HK0 := Lib.hid hk0
          clear hk0
          cases hp : (parW m k != -1) with
          | true =>
            have HNO : Hid (¬ mOk1 m k) := Lib.hid fun h => by have := h.1 HK0.out; rw [this] at hp; simp at hp
            generalize parW m k = pk at *
            generalize limW m k = lk at *
            go_wp2_with (first | (go_at_call 34; refine (within34 _ _ _ _).mono ?_; rintro e w1 ⟨rfl, rfl⟩) | fail)
            go_ret
            exact ⟨by (repeat' (first | assumption | exact Below.refl _ _ | refine Below.drew ?_ | refine below_drewN ?_ _ | refine Below.setCell ?_ (by first | omega | (simp; done) | (simp; omega)) _ | refine Below.alloc ?_ (by first | omega | (simp; done) | (simp; omega)) _ | refine Below.trans ?_ (Below.mono (by assumption) (by first | omega | (simp; done) | (simp; omega))))), .inr ⟨fun h => HNO.out (h.one k hlt), rfl⟩⟩
          | false =>
            cases hl : inB (limW m k) 0 1600 with
            | false =>
              have HNO : Hid (¬ mOk1 m k) := Lib.hid fun h => inB_false.1 hl h.2.2
              generalize parW m k = pk at *
              generalize limW m k = lk at *
              go_wp2_with (first | (go_at_call 34; refine (within34 _ _ _ _).mono ?_; rintro e w1 ⟨rfl, rfl⟩) | fail)
              go_ret
              exact ⟨by (repeat' (first | assumption | exact Below.refl _ _ | refine Below.drew ?_ | refine below_drewN ?_ _ | refine Below.setCell ?_ (by first | omega | (simp; done) | (simp; omega)) _ | refine Below.alloc ?_ (by first | omega | (simp; done) | (simp; omega)) _ | refine Below.trans ?_ (Below.mono (by assumption) (by first | omega | (simp; done) | (simp; omega))))), .inr ⟨fun h => HNO.out (h.one k hlt), rfl⟩⟩
            | true =>
              have HYES : Hid (mOk1 m k) := Lib.hid ⟨fun _ => by simpa using hp, fun h => by have := HK0.out; omega, inB_true.1 hl⟩
              have HNX : Hid (NT (wr.alloc (.cells #[I (parW m k), I (limW m k)] 55)) N T Fb mb (some ⟨b, off, none⟩) c m (k + 1)) := Lib.hid (HNT.out.next0 HK0.out (HYES.out.1 HK0.out) _)
              generalize parW m k = pk at *
              generalize limW m k = lk at *
              go_wp2_with (first | (go_at_call 34; refine (within34 _ _ _ _).mono ?_; rintro e w1 ⟨rfl, rfl⟩) | fail)
              go_roundw
              case rel => exact ⟨k + 1, by omega, by go_num, by (repeat' (first | assumption | exact Below.refl _ _ | refine Below.drew ?_ | refine below_drewN ?_ _ | refine Below.setCell ?_ (by first | omega | (simp; done) | (simp; omega)) _ | refine Below.alloc ?_ (by first | omega | (simp; done) | (simp; omega)) _ | refine Below.trans ?_ (Below.mono (by assumption) (by first | omega | (simp; done) | (simp; omega))))), HNX, Lib.hid fun j hj => by
                rcases Nat.lt_succ_iff_lt_or_eq.1 hj with h | rfl
                · exact HALL.out j h
                · exact HYES.out⟩
              case measure => simp [intOf]; omega
        · have HK0 := Lib.hid hk0
          have hkp : (1 : Int) ≤ (k : Int) := by omega
          cases hp : inB (parW m k) 0 ((k : Int) - 1) with
          | false =>
            have HNO : Hid (¬ mOk1 m k) := Lib.hid fun h => inB_false.1 hp (h.2.1 HK0.out)
            generalize parW m k = pk at *
            generalize limW m k = lk at *
            go_wp2_with (first | (go_at_call 34; refine (within34 _ _ _ _).mono ?_; rintro e w1 ⟨rfl, rfl⟩) | fail)
            go_ret
            exact ⟨by (repeat' (first | assumption | exact Below.refl _ _ | refine Below.drew ?_ | refine below_drewN ?_ _ | refine Below.setCell ?_ (by first | omega | (simp; done) | (simp; omega)) _ | refine Below.alloc ?_ (by first | omega | (simp; done) | (simp; omega)) _ | refine Below.trans ?_ (Below.mono (by assumption) (by first | omega | (simp; done) | (simp; omega))))), .inr ⟨fun h => HNO.out (h.one k hlt), rfl⟩⟩
          | true =>
            cases hl : inB (limW m k) 0 1600 with
            | false =>
              have HNO : Hid (¬ mOk1 m k) := Lib.hid fun h => inB_false.1 hl h.2.2
              generalize parW m k = pk at *
              generalize limW m k = lk at *
              go_wp2_with (first | (go_at_call 34; refine (within34 _ _ _ _).mono ?_; rintro e w1 ⟨rfl, rfl⟩) | fail)
              go_ret
              exact ⟨by (repeat' (first | assumption | exact Below.refl _ _ | refine Below.drew ?_ | refine below_drewN ?_ _ | refine Below.setCell ?_ (by first | omega | (simp; done) | (simp; omega)) _ | refine Below.alloc ?_ (by first | omega | (simp; done) | (simp; omega)) _ | refine Below.trans ?_ (Below.mono (by assumption) (by first | omega | (simp; done) | (simp; omega))))), .inr ⟨fun h => HNO.out (h.one k hlt), rfl⟩⟩
            | true =>
              have HYES : Hid (mOk1 m k) := Lib.hid ⟨fun h => by have := HK0.out; omega, fun _ => inB_true.1 hp, inB_true.1 hl⟩
              obtain ⟨hp1, hp2⟩ := inB_true.1 hp
              obtain ⟨p, hpe⟩ : ∃ p : Nat, parW m k = (p : Int) := ⟨(parW m k).toNat, by omega⟩
              have HPE := Lib.hid hpe
              rw [hpe] at x0 hp hp1 hp2
              clear hpe
              generalize limW m k = lk at *
              go_wp2_with (first | (go_at_call 34; refine (within34 _ _ _ _).mono ?_; rintro e w1 ⟨rfl, rfl⟩) | fail)
              have hB0 := hB.alloc hz (.cells #[Value.int .i64 p, Value.int .i64 lk] 55)
              obtain ⟨R, hR, hRT⟩ := HNT.out.rows
              have hRbx : ∀ i, i < m.length → (R i).ownBlock ≠ some wr.heap.size := fun i hi e => by have := ((hR.own i hi).lt _ e).2; omega
              have hR := hR.alloc (.cells #[Value.int .i64 p, Value.int .i64 lk] 55)
              have HNT0 := HNT.out.alloc (.cells #[Value.int .i64 p, Value.int .i64 lk] 55)
              have hbx : Hid ((wr.alloc (.cells #[Value.int .i64 p, Value.int .i64 lk] 55)).cell? ⟨wr.heap.size, 0, none⟩ = some (I p) ∧ wr.heap.size < (wr.alloc (.cells #[Value.int .i64 p, Value.int .i64 lk] 55)).heap.size) := Lib.hid (by simp [go_sem])
              generalize wr.alloc (.cells #[Value.int .i64 p, Value.int .i64 lk] 55) = w0 at *
              generalize wr.heap.size = bx at *
              clear HNT hB x0 x1
              have hpn : p < m.length := by omega
              have hT0 := HNT0.hT
              have hF0 := hR.lt
              have hRF := hR.off p hpn
              have hRT' := hRT p hpn
              have hRX := hRbx p hpn
              obtain ⟨rp, hrp⟩ : ∃ rp, rp = R p := ⟨_, rfl⟩
              rw [← hrp] at hRF hRT' hRX
              have hcells : ∀ W, Frm w0.heap.size (fun g => rp.ownBlock = some g) w0 W → W.cell? ⟨T, 1, none⟩ = some (.slice (some ⟨Fb, 0, none⟩) m.length m.length) ∧ W.cell? ⟨bx, 0, none⟩ = some (I p) ∧ W.cell? ⟨Fb, p, none⟩ = some rp := fun W hW =>
                ⟨(hW.cell hT0 hRT').trans HNT0.t1, (hW.cell hbx.out.2 hRX).trans hbx.out.1, (hW.cell hF0 hRF).trans (by rw [hrp]; exact (hR.cell p hpn).1)⟩
              have HCE := Lib.hid hcells
              have HR := Lib.hid hR
              have HN0 := Lib.hid HNT0
              have HB0 := Lib.hid hB0
              clear hcells hR HNT0 hB0
              have HRP := Lib.hid hrp
              clear hrp
              refine (wpIn_wide (n := 9)).1 ?_
              refine wpIn_region_plan (Plan.ons [0, 1, 2, 3, 4, 5, 6, 7, 8, 9, 10, 11, 12, 13, 14, 15, 16, 17, 18] .fin) [0, 1, 2, 3, 4, 5, 6, 7, 8, 9, 10, 11, 12, 13] (fun W' => Frm w0.heap.size (fun g => rp.ownBlock = some g) w0 W') [18] rfl (by kernel_rfl) (by kernel_rfl) (fun _ d _ _ _ h => by cases d <;> exact h) (Frm.refl _ _ _).drew ?_
              (refine ordQ_held (.pointer (some ⟨T, 0, none⟩)) rfl rfl rfl rfl (fun W' hC' => ?_) (fun K hK => ?_); (focus (obtain ⟨e0, e1, e2⟩ := HCE.out _ hC'; go_simp; try exact ⟨rfl, rfl⟩)); go_simp; refine hK _ ?_; clear hK K)
              (refine ordQ_held (.pointer (some ⟨T, 0, none⟩)) rfl rfl rfl rfl (fun W' hC' => ?_) (fun K hK => ?_); (focus (obtain ⟨e0, e1, e2⟩ := HCE.out _ hC'; go_simp; try exact ⟨rfl, rfl⟩)); go_simp; refine hK _ ?_; clear hK K)
              (refine ordQ_held (.pointer (some ⟨T, 1, none⟩)) rfl rfl rfl rfl (fun W' hC' => ?_) (fun K hK => ?_); (focus (obtain ⟨e0, e1, e2⟩ := HCE.out _ hC'; go_simp; try exact ⟨rfl, rfl⟩)); go_simp; refine hK _ ?_; clear hK K)
              (refine ordQ_held (.slice (some ⟨Fb, 0, none⟩) m.length m.length) rfl rfl rfl rfl (fun W' hC' => ?_) (fun K hK => ?_); (focus (obtain ⟨e0, e1, e2⟩ := HCE.out _ hC'; go_simp; try exact ⟨rfl, rfl⟩)); go_simp; refine hK _ ?_; clear hK K)
              (refine ordQ_held (.pointer (some ⟨bx, 0, none⟩)) rfl rfl rfl rfl (fun W' hC' => ?_) (fun K hK => ?_); (focus (obtain ⟨e0, e1, e2⟩ := HCE.out _ hC'; go_simp; try exact ⟨rfl, rfl⟩)); go_simp; refine hK _ ?_; clear hK K)
              (refine ordQ_held (I p) rfl rfl rfl rfl (fun W' hC' => ?_) (fun K hK => ?_); (focus (obtain ⟨e0, e1, e2⟩ := HCE.out _ hC'; go_simp; try exact ⟨rfl, rfl⟩)); go_simp; refine hK _ ?_; clear hK K)
              (refine ordQ_held (.pointer (some ⟨T, 0, none⟩)) rfl rfl rfl rfl (fun W' hC' => ?_) (fun K hK => ?_); (focus (obtain ⟨e0, e1, e2⟩ := HCE.out _ hC'; go_simp; try exact ⟨rfl, rfl⟩)); go_simp; refine hK _ ?_; clear hK K)
              (refine ordQ_held (.pointer (some ⟨T, 0, none⟩)) rfl rfl rfl rfl (fun W' hC' => ?_) (fun K hK => ?_); (focus (obtain ⟨e0, e1, e2⟩ := HCE.out _ hC'; go_simp; try exact ⟨rfl, rfl⟩)); go_simp; refine hK _ ?_; clear hK K)
              (refine ordQ_held (.pointer (some ⟨T, 1, none⟩)) rfl rfl rfl rfl (fun W' hC' => ?_) (fun K hK => ?_); (focus (obtain ⟨e0, e1, e2⟩ := HCE.out _ hC'; go_simp; try exact ⟨rfl, rfl⟩)); go_simp; refine hK _ ?_; clear hK K)
              (refine ordQ_held (.slice (some ⟨Fb, 0, none⟩) m.length m.length) rfl rfl rfl rfl (fun W' hC' => ?_) (fun K hK => ?_); (focus (obtain ⟨e0, e1, e2⟩ := HCE.out _ hC'; go_simp; try exact ⟨rfl, rfl⟩)); go_simp; refine hK _ ?_; clear hK K)
              (refine ordQ_held (.pointer (some ⟨bx, 0, none⟩)) rfl rfl rfl rfl (fun W' hC' => ?_) (fun K hK => ?_); (focus (obtain ⟨e0, e1, e2⟩ := HCE.out _ hC'; go_simp; try exact ⟨rfl, rfl⟩)); go_simp; refine hK _ ?_; clear hK K)
              (refine ordQ_held (I p) rfl rfl rfl rfl (fun W' hC' => ?_) (fun K hK => ?_); (focus (obtain ⟨e0, e1, e2⟩ := HCE.out _ hC'; go_simp; try exact ⟨rfl, rfl⟩)); go_simp; refine hK _ ?_; clear hK K)
              (refine ordQ_held (.pointer (some ⟨Fb, p, none⟩)) rfl rfl rfl rfl (fun W' hC' => ?_) (fun K hK => ?_); (focus (obtain ⟨e0, e1, e2⟩ := HCE.out _ hC'; go_simp; try exact ⟨rfl, rfl⟩)); go_simp; refine hK _ ?_; clear hK K)
              (refine ordQ_held (rp) rfl rfl rfl rfl (fun W' hC' => ?_) (fun K hK => ?_); (focus (obtain ⟨e0, e1, e2⟩ := HCE.out _ hC'; go_simp; try exact ⟨rfl, rfl⟩)); go_simp; refine hK _ ?_; clear hK K)
              (refine ordQ_li rfl rfl rfl (fun K hK => ?_); go_simp; refine hK _ ?_; clear hK K)
              refine ordQ_hv rfl rfl rfl (fun K hK => ?_)
              gi_wp2
              refine hK _ _ (fun _ => by (repeat' (first | exact Frm.refl _ _ _ | refine Frm.drew ?_ | refine Frm.drewN ?_ _ | refine Frm.setCell ?_ (by first | exact Or.inr rfl | (refine Or.inl ?_; (first | (simp; done) | (simp; omega) | omega)) | (simp; omega)) _ | refine Frm.alloc ?_ (by first | (simp; done) | (simp; omega) | omega) _ | refine Frm.then_ ?_ (by assumption) (by first | (simp; done) | (simp; omega) | omega)))) ?_
              clear hK K
              refine ordQ_hv rfl rfl rfl (fun K hK => ?_)
              refine opIn_append_at rfl _ _ _ 26 rfl N 3 j0 (I 0) 1 8 HU2.out HJ0.out HJ1.out HJ2.out HJ3.out rfl (by decide) rp (kidsTo m k p).length ((kidsTo m k p).map fun k : Nat => I (k : Int)) rfl ?hw ⟨w0.heap.size, 0, none⟩ 1 1 [I k] rfl rfl (cell_one_new'' _ _ _) (by simp [Value.oneCell']) ?h63 ?hby ?hbs ?_
              case hw => rw [HRP.out]; exact ((HR.out.own p hpn).alloc _).drew
              case h63 => have := kidsTo_len m k p; unfold maxLen; omega
              case hby => have := kidsTo_len m k p; omega
              case hbs => simp; omega
              intro v' w3 hown3 hg3 hloc3
              have hF3 : Frm w0.heap.size (fun g => rp.ownBlock = some g) w0 w3 := by
                have h0 : Frm w0.heap.size (fun g => rp.ownBlock = some g) w0 (w0.alloc (.cells #[I k] 3)).drew := by (repeat' (first | exact Frm.refl _ _ _ | refine Frm.drew ?_ | refine Frm.drewN ?_ _ | refine Frm.setCell ?_ (by first | exact Or.inr rfl | (refine Or.inl ?_; (first | (simp; done) | (simp; omega) | omega)) | (simp; omega)) _ | refine Frm.alloc ?_ (by first | (simp; done) | (simp; omega) | omega) _ | refine Frm.then_ ?_ (by assumption) (by first | (simp; done) | (simp; omega) | omega)))
                exact h0.grown hg3 (by simp) (fun k e => .inr e)
              rw [HRP.out] at hg3 hloc3
              have hK3 := (((HR.out.alloc (.cells #[I k] 3)).drew).push hpn k hown3 hg3 (hloc3.imp id (fun h => ⟨_, h, Nat.le_refl _⟩)))
              have hvT : v'.ownBlock ≠ some T := by
                rcases hloc3 with h | h
                · rw [h]; exact hRT p hpn
                · rw [h]; intro e; injection e with e; simp at e; omega
              have hNX : Hid (NT (w3.setCell ⟨Fb, p, none⟩ v') N T Fb mb (some ⟨b, off, none⟩) c m (k + 1)) := Lib.hid (by
                have hFT : Fb ≠ T := fun e => by omega
                have hFm : Fb ≠ mb := fun e => by omega
                refine ⟨by simpa using Nat.lt_of_lt_of_le hT0 hF3.size, ?_, ?_, fun j hj => ⟨?_, ?_⟩, ?_, fun i => if i = p then v' else R i, ?_, fun i hi => ?_⟩
                · rw [World.cell?_setCell_other _ _ _ _ (by simp <;> omega), hF3.cell hT0 hRT']; exact HN0.out.t0
                · rw [World.cell?_setCell_other _ _ _ _ (by simp <;> omega), hF3.cell hT0 hRT']; exact HN0.out.t1
                · rw [World.frozen?_setCell, hF3.frozen hT0 hRT']; exact (HN0.out.tz j hj).1
                · obtain ⟨u, hu⟩ := (HN0.out.tz j hj).2
                  exact ⟨u, by rw [World.cell?_setCell_other _ _ _ _ (by simp <;> omega), hF3.cell hT0 hRT']; exact hu⟩
                · rw [World.cell?_setCell_other _ _ _ _ (by simp <;> omega), hF3.cell HN0.out.lt (fun e => by rw [HRP.out] at e; have := ((HR.out.own p hpn).lt _ e).1; omega)]; exact HN0.out.b0
                · have e : kidsTo m (k + 1) = fun i => if i = p then kidsTo m k p ++ [k] else kidsTo m k i := by
                    funext i
                    rw [kidsTo_succ, HPE.out]
                    by_cases e : i = p
                    · subst e; simp
                    · rw [if_neg (by omega), if_neg e]
                  rw [e]
                  exact hK3
                · by_cases e : i = p
                  · simp only [e, if_true]; exact hvT
                  · simp only [e, if_false]; exact hRT i hi)
              have hBX : Below w.heap.size w (w3.setCell ⟨Fb, p, none⟩ v') := by
                refine Below.setCell (HB0.out.trans (hF3.below (by omega) (fun g hg e => ?_))) hFN _
                rw [HRP.out] at e
                have := ((HR.out.own p hpn).lt _ e).1
                omega
              obtain ⟨hf3, hc3⟩ : w3.frozen? ⟨Fb, p, none⟩ = false ∧ w3.cell? ⟨Fb, p, none⟩ = some rp := ⟨(hF3.frozen hF0 hRF).trans (HR.out.cell p hpn).2, (HCE.out _ hF3).2.2⟩
              refine hK _ _ (fun _ => hF3) ?_
              clear hK K hK3 hg3 hloc3 hvT
              (refine ordQ_li rfl rfl rfl (fun K hK => ?_); go_simp; refine hK _ ?_; clear hK K)
              rcases own_form hown3 with ⟨_, h0⟩ | ⟨g', cap', rfl, _⟩
              · omega
              clear hown3
              refine ordQ_hv rfl rfl rfl (fun K hK => ?_)
              gi_wp2
              refine hK _ _ (fun h => by cases h) ?_
              clear hK K
              refine ordQ_fin ?_
              go_wp2
              go_roundw
              case rel => exact ⟨k + 1, by omega, by go_num, hBX, hNX, Lib.hid fun j hj => by
                rcases Nat.lt_succ_iff_lt_or_eq.1 hj with h | rfl
                · exact HALL.out j h
                · exact HYES.out⟩
              case measure => simp [intOf]; omega
      · obtain rfl : m.length = k := by omega
        obtain ⟨t2f, u2', t2⟩ := HNT.out.tz 0 (by omega)
        obtain ⟨t3f, u3', t3⟩ := HNT.out.tz 1 (by omega)
        simp only [Nat.zero_add, Nat.reduceAdd] at t2f t2 t3f t3
        go_wp2_with (fail)
        go_ret
        refine ⟨(hB.setCell hTN _).setCell hTN _, .inl ⟨mOk_of hn1 hn2 HALL.out, T, rfl, hTN, ?_⟩⟩
        obtain ⟨R, hR, hRT⟩ := HNT.out.rows
        have hmbT : mb ≠ T := by omega
        have hFT : Fb ≠ T := by omega
        have hlt2 := HNT.out.lt
        obtain ⟨wz, hwz⟩ : ∃ wz, wz = (wr.setCell ⟨T, 2, none⟩ (.func (.func 71) #[] #[.pointer (some ⟨w.heap.size, 0, none⟩)])).setCell ⟨T, 3, none⟩ (.func (.func 72) #[] #[.pointer (some ⟨w.heap.size, 0, none⟩)]) := ⟨_, rfl⟩
        rw [← hwz]
        have hbel : ∀ (b o : Nat), b ≠ T → wz.cell? ⟨b, o, none⟩ = wr.cell? ⟨b, o, none⟩ := fun b o hb => by
          rw [hwz, World.cell?_setCell_other _ _ _ _ (fun e => hb (by injection e with e; exact e.symm)), World.cell?_setCell_other _ _ _ _ (fun e => hb (by injection e with e; exact e.symm))]
        have hwzz : wz.heap.size = wr.heap.size := by rw [hwz]; simp
        refine ⟨by omega, mOk_of hn1 hn2 HALL.out, ?_, ?_, ⟨mb, by omega, (hbel mb 0 hmbT).trans HNT.out.b0, ?_, ?_⟩, ⟨Fb, by have := hR.lt; omega, ?_, hR.ints hwzz hbel hRT hFT⟩⟩
        · exact ((hm.below hB).keep (fun p hp => by rw [hwz, World.cell?_setCell_other _ _ _ _ (fun e => by rw [← e] at hp; simp at hp; omega), World.cell?_setCell_other _ _ _ _ (fun e => by rw [← e] at hp; simp at hp; omega)])).more (by omega)
        · rw [hwz, World.cell?_setCell_other _ _ _ _ (by simp), World.cell?_setCell_other _ _ _ _ (by simp)]; exact HNT.out.t0
        · rw [hwz, World.cell?_setCell_other _ _ _ _ (by simp), World.cell?_setCell_same _ _ _ t2, hmbe]
        · rw [hwz, World.cell?_setCell_same _ _ _ (by rw [World.cell?_setCell_other _ _ _ _ (by simp)]; exact t3), hmbe]
        · rw [hwz, World.cell?_setCell_other _ _ _ _ (by simp), World.cell?_setCell_other _ _ _ _ (by simp)]; exact HNT.out.t1
end Go.Proofs.YtgdilbilhajgaaaDoor
