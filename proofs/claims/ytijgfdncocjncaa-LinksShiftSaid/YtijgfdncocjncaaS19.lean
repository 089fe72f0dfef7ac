/- Needed, of the program. -/
import Derived.Test.YtijgfdncocjncaaS18
import Derived.Test.YtijgfdncocjncaaRr
namespace Go.Proofs.Ytijgfdncocjncaa
set_option linter.unusedVariables false
set_option linter.unusedSimpArgs false
open Go Go.RowKit Go.Shelf
attribute [local go_sem] Oper.semAt_some

/-- Behind the start of a round: the box of what is left. -/
def At12 (W : World) (s0 : Nat) (tm : Nat → Array Value) (a' : Act) (w' : World) : Prop := ∃ b8, W.heap.size ≤ b8 ∧ Boxed w' b8 61 (U64 s0) ∧ Below W.heap.size W w' ∧ a' = { tmps := tm b8, defers := [] }
theorem andU (a b : Nat) (ha : a < 18446744073709551616) (hb : b < 18446744073709551616) : Go.bits BinOp.and IntKind.u64 (a : Int) (b : Int) = ((a &&& b : Nat) : Int) := u64_and_nat a b ha hb
theorem twos_marks {W W' : World} {B : Nat} {Ds : List Nat} {A : Option Addr} {l : List (Int × Int)} (h : Twos W W.heap.size A l) (hM : Marks B Ds W) (hB : Below B W W') (hk : ∀ k, k ∉ Ds → W'.heap[k]? = W.heap[k]?) : Twos W' W'.heap.size A l := fun h0 => by
  obtain ⟨b, off, rfl, h1, h2⟩ := h h0
  have hb : b ∉ Ds := fun hd => by
    have h3 := (h2 0 h0).1
    have h4 := (hM.2 b hd).2
    simp [World.cell?, h4] at h3
  exact ⟨b, off, rfl, Nat.lt_of_lt_of_le h1 hB.size, fun k hk' => ⟨(World.cell?_of_block (a := ⟨b, _, none⟩) (hk b hb)).trans (h2 k hk').1, (World.cell?_of_block (a := ⟨b, _, none⟩) (hk b hb)).trans (h2 k hk').2⟩⟩
theorem ownFrom_frmS {β : Type} {H B : Nat} {S : Nat → Prop} {w : World} (hH : H ≤ w.heap.size) (hB : H ≤ B) : OwnFrom B (fun (_ : β) W => Frm H S w W) :=
  fun _ _ _ _ hs hg hr => hs.grown hg (Nat.le_trans hH hs.size) (fun k e => .inl (Nat.le_trans hB (hr k e).1))
set_option maxRecDepth 100000 in
set_option maxHeartbeats 8000000 in
theorem needed17 (x : Wat) (A B : Option Addr) (c d : Nat) (w : World) (h64 : Wat64 x) (hW : WatAt w x A B) :
    Calls Try.prog 17 #[x.val A c B d] w fun e w' => ∃ A' c', e = .returned (.tuple #[.slice A' (nedR x).1.length c', I (nedR x).2]) ∧ Twos w' w'.heap.size A' (nedR x).1 ∧ Below w.heap.size w w' := by
  have H28 := Lib.hid fun (W : World) (hB : Below w.heap.size w W) => isWatch28 x A B c d W (hW.below hB) h64
  have hlen := h64.hlen
  have HB0 : Hid (Below w.heap.size w (w.alloc (.cells #[.slice A x.hb.length c, .slice B x.er.length d, I x.en] 25))) := Lib.hid (by (repeat' (first | assumption | exact Below.refl _ _ | refine Below.drew ?_ | refine below_drewN ?_ _ | refine Below.setCell ?_ (by first | omega | (simp; done) | (simp; omega)) _ | refine Below.alloc ?_ (by first | omega | (simp; done) | (simp; omega)) _ | refine Below.trans ?_ (Below.mono (by assumption) (by first | omega | (simp; done) | (simp; omega))))))
  have HBa : Hid (Box (w.alloc (.cells #[.slice A x.hb.length c, .slice B x.er.length d, I x.en] 25)) w.heap.size [.slice A x.hb.length c, .slice B x.er.length d, I x.en]) := Lib.hid (Box.new w [.slice A x.hb.length c, .slice B x.er.length d, I x.en] 25)
  have HZ0 : Hid (w.heap.size + 1 = (w.alloc (.cells #[.slice A x.hb.length c, .slice B x.er.length d, I x.en] 25)).heap.size) := Lib.hid (by simp)
  cases hwb : watB x
  · have HR : Hid (nedR x = ([], 1)) := Lib.hid (by unfold nedR; rw [hwb]; rfl)
    rw [hwb] at H28
    unfold Wat.val at H28 ⊢
    go_enter Try.func17, Try.ntmps17
    go_wp2_with (first | (go_at_call 28; refine (H28.out _ HB0.out).mono ?_; rintro e w1 ⟨rfl, hB1⟩) | fail)
    refine bodyPost_ret (v := .tuple #[.slice none 0 0, I 1]) (by simp [results, Try.results17, go_sem]) rfl ⟨none, 0, by rw [HR.out]; rfl, by rw [HR.out]; exact fun h => absurd h (by simp), HB0.out.trans (hB1.mono (by simp))⟩
  · have hx := watB_iff.1 hwb
    have HX := Lib.hid hx
    have hn6 : x.hb.length ≤ 6 := hx.n6
    have H30 : Hid (∀ W, Below w.heap.size w W → Calls Try.prog 30 #[x.val A c B d] W fun e w' => ∃ (D : Option Addr) (cs : Nat), e = .returned (.pointer (some ⟨W.heap.size + 1, 0, none⟩)) ∧ Run w' (W.heap.size + 1) x A B c d D cs ∧ Below W.heap.size W w') := Lib.hid fun W h => newWatch30 x A B c d W hx (hW.below h)
    rw [hwb] at H28
    clear hW h64
    unfold Wat.val at H28 H30 ⊢
    refine (callsIn_wide (n := 9)).1 ?_
    refine callsIn_of_wp_marks Try.func17 rfl trivial ?_ rfl
    refine wpIn_mono (Q := postM _ _ _ _ _) ?_ postM_of
    simp only [Try.ntmps17, List.size_toArray, List.length_cons, List.length_nil, Nat.reduceAdd, Nat.reduceSub, Array.replicate_succ, Array.replicate_zero, List.push_toArray, List.append_toArray, List.nil_append, List.cons_append]
    gi_wp2_with (first
      | (refine And.intro trivial ?_; gi_at_call 28; generalize (w.alloc (.cells #[.slice A x.hb.length c, .slice B x.er.length d, I x.en] 25)) = wa at *; refine (callsIn_wide.2 (H28.out _ HB0.out)).mono ?_; rintro e w1 ⟨rfl, hB1⟩; have HBa1 := HBa.out.call hB1; obtain ⟨k0, _⟩ := HBa1.at_ 0 _ rfl; obtain ⟨k1, _⟩ := HBa1.at_ 1 _ rfl; obtain ⟨k2, _⟩ := HBa1.at_ 2 _ rfl; have HB1 : Hid (Below w.heap.size w w1) := Lib.hid (HB0.out.trans (hB1.mono (by have := HZ0.out; omega))))
      | (refine And.intro trivial ?_; gi_at_call 30; refine (callsIn_wide.2 (H30.out _ HB1.out)).mono ?_; rintro e w2 ⟨D, cs, rfl, hR, hB2⟩; obtain ⟨P, hP⟩ : ∃ P, w1.heap.size + 1 = P := ⟨_, rfl⟩; rw [hP] at hR ⊢; clear hP; have HRR := Lib.hid hR; have sp0 := hR.sp0; have hPz := hR.lt; have hPz2 : P < w2.heap.size + 1 := Nat.lt_succ_of_lt hPz)
      | fail)
    have HB2 : Hid (Below w.heap.size w w2) := Lib.hid (HB1.out.trans (hB2.mono (by have := HB1.out.size; omega)))
    have hz1 := HB1.out.size
    have hz2 := hB2.size
    clear k0 k1 k2 hB1 hB2 hR sp0 HBa1 H30 H28
    obtain ⟨W0, hW0⟩ : ∃ W0, W0 = (w2.alloc (.cells #[.pointer (some ⟨P, 0, none⟩)] 63)).alloc (.cells #[.slice none 0 0] 74) := ⟨_, rfl⟩
    rw [show World.alloc (World.alloc w2 _) _ = W0 from hW0.symm]
    have hs0 : W0.heap.size = w2.heap.size + 2 := by rw [hW0]; simp
    have hB0 : Below w2.heap.size w2 W0 := by rw [hW0]; (repeat' (first | assumption | exact Below.refl _ _ | refine Below.drew ?_ | refine below_drewN ?_ _ | refine Below.setCell ?_ (by first | omega | (simp; done) | (simp; omega)) _ | refine Below.alloc ?_ (by first | omega | (simp; done) | (simp; omega)) _ | refine Below.trans ?_ (Below.mono (by assumption) (by first | omega | (simp; done) | (simp; omega)))))
    have hb4 : Boxed W0 w2.heap.size 63 (.pointer (some ⟨P, 0, none⟩)) := by rw [hW0]; exact (Boxed.new w2 63 _).alloc _
    have hb5 : Boxed W0 (w2.heap.size + 1) 74 (.slice none 0 0) := by rw [hW0]; have := Boxed.new (w2.alloc (.cells #[.pointer (some ⟨P, 0, none⟩)] 63)) 74 (.slice none 0 0); simpa only [World.size_alloc] using this
    clear hW0 hPz2
    have HRW : Hid (∀ W, Below w2.heap.size w2 W → Run W P x A B c d D cs) := Lib.hid fun W h => HRR.out.call h
    have H33 : Hid (∀ k, k < x.hb.length → ∀ W, Below w2.heap.size w2 W → Calls Try.prog 33 #[.pointer (some ⟨P, 0, none⟩), I k] W fun e w' => e = .returned (U64 (setN (lackP x k))) ∧ Below W.heap.size W w') := Lib.hid fun k h1 W hB => lacking33 x P k A B c d D cs W HX.out (HRW.out W hB) h1
    have H42 : Hid (∀ k, k < x.hb.length → ∀ W, Below w2.heap.size w2 W → Calls Try.prog 42 #[.pointer (some ⟨P, 0, none⟩), I k] W fun e w' => e = .returned (U64 (setN (needP x k))) ∧ Below W.heap.size W w') := Lib.hid fun k h1 W hB => needs42 x P k A B c d D cs W HX.out (HRW.out W hB) h1
    have HRS : Hid (∀ o, nedTo x x.hb.length = some o → nedR x = (o, 0)) := Lib.hid fun o h => by unfold nedR; rw [hwb, show nedTo x x.n = some o from h]; rfl
    have HRN : Hid (∀ k, k ≤ x.hb.length → nedTo x k = none → nedR x = ([], 4)) := Lib.hid fun k h1 h => by unfold nedR; rw [hwb, nedTo_none x h x.n h1]; rfl
    have HFO := Lib.hid fun k o h1 h2 => nedTo_ok x k o h1 hn6 h2
    have HEN := Lib.hid fun t => lackP_en (x := x) hx.m64 t
    have HNA := Lib.hid fun t (he : enB x t (srcs x t) = true) => nedQ_all (x := x) hx.m64 t he
    have HPL := Lib.hid fun k => setN_lt (lackP x k)
    obtain ⟨i0, hi0, hi1, hi2, hi3⟩ := info_parts info84
    clear hx
    refine wpIn_loop (fun a wr => ∃ (Ds : List Nat) (u6 u20 u21 u22 u23 u24 u25 u26 u27 u28 u29 u59 : Value) (k : Nat) (o : List (Int × Int)), (u20 = I k ∧ k ≤ x.hb.length ∧ Hid (nedTo x k = some o) ∧ Below w2.heap.size w2 wr ∧ w2.heap.size + 2 ≤ wr.heap.size ∧ Hid (Boxed wr w2.heap.size 63 (.pointer (some ⟨P, 0, none⟩))) ∧
        Hid (∃ v, Boxed wr (w2.heap.size + 1) 74 v ∧ wr.ownsRow (w2.heap.size + 2) 84 2 v o.length (flat2 o)) ∧ Hid (Marks (w2.heap.size + 2) Ds wr)) ∧
      a = { tmps := #[.agg #[.slice A x.hb.length c, .slice B x.er.length d, I x.en], .pointer (some ⟨w.heap.size, 0, none⟩), .slice none 0 0, .int .i64 0, .pointer (some ⟨w2.heap.size, 0, none⟩), .pointer (some ⟨w2.heap.size + 1, 0, none⟩), u6, undef, undef, undef, .agg #[.slice A x.hb.length c, .slice B x.er.length d, I x.en], .bool true, .bool false, .agg #[.slice A x.hb.length c, .slice B x.er.length d, I x.en], .pointer (some ⟨P, 0, none⟩), .pointer (some ⟨P, 0, none⟩), .pointer (some ⟨P, 0, none⟩), .pointer (some ⟨P, 3, none⟩), .slice D x.hb.length cs, .int .i64 x.hb.length, u20, u21, u22, u23, u24, u25, u26, u27, u28, u29, undef, undef, undef, undef, undef, undef, undef, undef, undef, undef, undef, undef, undef, undef, undef, undef, undef, undef, undef, undef, undef, undef, undef, undef, undef, undef, undef, undef, undef, u59, undef, undef], defers := Ds.map markOf }) (fun a _ => x.hb.length - (intOf (a.tmps.getD 20 undef)).toNat) ?_ ?_
    · refine ⟨[], ?_⟩
      (repeat apply Exists.intro)
      refine ⟨⟨rfl, Nat.zero_le _, Lib.hid rfl, hB0, by omega, Lib.hid hb4, Lib.hid ⟨_, hb5, World.ownsRow_nil _ _ _ _⟩, Lib.hid ⟨List.nodup_nil, fun D h => by cases h⟩⟩, rfl⟩
    clear hb4 hb5 hB0 hs0
    rintro _ wr ⟨Ds, u6, u20, u21, u22, u23, u24, u25, u26, u27, u28, u29, u59, k, o, ⟨rfl, hk, HT, hB, hzw, H4, H5, HM⟩, rfl⟩
    obtain ⟨ho1, ho2, _⟩ := HFO.out k o (by omega) HT.out
    have hzr := hB.size
    by_cases hlt : k < x.hb.length
    · have p0 : (0 : Int) ≤ (k : Int) := by omega
      have p1 : (k : Int) < (x.hb.length : Int) := by omega
      have hl2 := HPL.out k
      have HENk := Lib.hid (HEN.out k)
      have H33k := Lib.hid (H33.out k hlt)
      obtain ⟨v0, hv0, hrow0⟩ := H5.out
      have HV0 := Lib.hid hv0
      have HROW0 := Lib.hid hrow0
      have c4 := H4.out.cell
      have hz4a : w2.heap.size < wr.heap.size := by omega
      have hz5a : w2.heap.size + 1 < wr.heap.size := by omega
      clear ho2 hv0 hrow0
      obtain ⟨sp, hsp⟩ : ∃ sp, setN (lackP x k) = sp := ⟨_, rfl⟩
      rw [hsp] at H33k hl2 HENk
      clear hsp
      have hBw : Below w2.heap.size w2 (wr.alloc (.cells #[I k] 3)) := hB.alloc (by omega) _
      have h6w : Boxed (wr.alloc (.cells #[I k] 3)) wr.heap.size 3 (I k) := Boxed.new wr 3 (I k)
      by_cases hs0 : sp = 0
      · have he := HENk.out.1 hs0
        subst hs0
        have HTN : Hid (nedTo x (k + 1) = some (o ++ lnk k (nedT x k))) := Lib.hid (by unfold nedTo; rw [HT.out]; simp only; rw [if_pos he])
        have HNAk := Lib.hid (HNA.out k he)
        clear HENk
        gi_wp2_with (first
          | (refine And.intro trivial ?_; gi_at_call 33; refine (callsIn_wide.2 (H33k.out _ hBw)).mono ?_; rintro e w3 ⟨rfl, hB3⟩; have HB3 : Hid (Below wr.heap.size wr w3) := Lib.hid ((below1 wr (.cells #[I k] 3)).trans (hB3.mono (by simp))); have c43 := (H4.out.kept (grown_of_below HB3.out) (by simp)).cell; have c63 := (h6w.kept (grown_of_below hB3) (by simp)).cell; have HH6 := Lib.hid (h6w.kept (grown_of_below hB3) (by simp)))
          | (refine And.intro trivial ?_; gi_at_call 41; refine (callsIn_wide.2 (sources41 P k _)).mono ?_; rintro e w4 ⟨Bp, Bt, rfl, hsr, hB4⟩)
          | fail)
        have hz3 := hB3.size
        have hz4 := hB4.size
        have HB34 : Hid (Below wr.heap.size wr w4) := Lib.hid (HB3.out.trans (hB4.mono HB3.out.size))
        have hzr4 := HB34.out.size
        have HB24 : Hid (Below w2.heap.size w2 w4) := Lib.hid (hB.trans (HB34.out.mono (by omega)))
        obtain ⟨hbp, hbt, hc0, hc1⟩ := hsr
        have H44 := Lib.hid (H4.out.kept (grown_of_below HB34.out) (by simp))
        have H64 := Lib.hid (HH6.out.kept (grown_of_below hB4) (by simp))
        have HV4 := Lib.hid (HV0.out.kept (grown_of_below HB34.out) (by simp))
        have HROW4 := Lib.hid (grown_own HROW0.out HB34.out)
        have HM4 := Lib.hid (HM.out.call HB34.out)
        have hr3 : wr.heap.size + 1 ≤ w3.heap.size := by have := hB3.size; simpa using this
        have HS0z : Hid (∀ j, (j = w2.heap.size + 1 ∨ v0.ownBlock = some j) → w2.heap.size + 1 ≤ j ∧ j < wr.heap.size) := Lib.hid fun j h => by
          rcases h with rfl | h
          · exact ⟨Nat.le_refl _, hz5a⟩
          · have := HROW0.out.lt j h; omega
        have HSrow : Hid (∀ b t v, Boxed w4 b t v → t ≠ 84 → v0.ownBlock ≠ some b) := Lib.hid fun b t v h ht e => h.not_row ht HROW4.out e.symm
        have HX4 := HX
        clear c43 c63 HH6 HB3 H33k H5 HV0 HROW0 HM H4 hB4 hB3 c4 hBw h6w
        have H42k := Lib.hid (H42.out k hlt)
        have hsl := srcs_len x k
        have hsl2 : (srcs x k).length ≤ 6 := Nat.le_trans hsl hn6
        refine wpIn_rangeFunc_ownH (F := Fence.wide) (n := 9) rfl (by decide) (gf := 57) (lb := #[.pointer (some ⟨Bp, 0, none⟩), .pointer (some ⟨Bt, 0, none⟩)]) rfl trivial (enters_of Try.func57 (by kernel_rfl) rfl)
          (srcs_t HX.out HRR.out hlt 8 (by decide) Bp Bt w4.heap.size (fun j => j = w2.heap.size + 1 ∨ v0.ownBlock = some j) ⟨HB24.out.size, fun j h => by have := HS0z.out j h; omega⟩ ⟨hbp.2, fun h => by have := HS0z.out _ h; omega⟩ ⟨hbt.2, fun h => by have := HS0z.out _ h; omega⟩ w4 (Nat.le_refl _) HB24.out hc0 hc1) frmK_t (frmK_b (Nat.le_refl _)) (Below.refl _ _) (fun _ => rfl)
          (fun pre W => (∃ v, Boxed W (w2.heap.size + 1) 74 v ∧ W.ownsRow (w2.heap.size + 2) 84 2 v (o ++ lnk k (nedQ x k pre)).length (flat2 (o ++ lnk k (nedQ x k pre))) ∧ (v.ownBlock = v0.ownBlock ∨ ∀ j, v.ownBlock = some j → w4.heap.size ≤ j)) ∧ Frm w4.heap.size (fun j => j = w2.heap.size + 1 ∨ v0.ownBlock = some j) w4 W)
          (fun _ _ _ => False)
          (OwnFrom.and (Own.from (holdsRow_own (w2.heap.size + 2) (w2.heap.size + 1) 74 84 2 (fun pre => (o ++ lnk k (nedQ x k pre)).length) (fun pre => flat2 (o ++ lnk k (nedQ x k pre))) (fun _ v => v.ownBlock = v0.ownBlock ∨ ∀ j, v.ownBlock = some j → w4.heap.size ≤ j)) _) (ownFrom_frmS (Nat.le_refl _) (Nat.le_refl _)))
          (fun _ _ _ _ _ hs _ _ => hs)
          ⟨⟨v0, HV4.out, by have := HROW4.out; simpa [nedQ, lnk] using this, .inl rfl⟩, Frm.refl _ _ _⟩
          (fun y a' W => ∃ Ba : Nat, w4.heap.size ≤ Ba ∧ Box W Ba [I ((srcs x k)[y] : Nat), U64 (setN (expP x (srcs x k)[y] k))] ∧ a' = { tmps := #[.agg #[.slice A x.hb.length c, .slice B x.er.length d, I x.en], .pointer (some ⟨w.heap.size, 0, none⟩), .slice none 0 0, .int .i64 0, .pointer (some ⟨w2.heap.size, 0, none⟩), .pointer (some ⟨w2.heap.size + 1, 0, none⟩), .pointer (some ⟨wr.heap.size, 0, none⟩), .pointer (some ⟨Ba, 0, none⟩), undef, undef, .agg #[.slice A x.hb.length c, .slice B x.er.length d, I x.en], .bool true, .bool false, .agg #[.slice A x.hb.length c, .slice B x.er.length d, I x.en], .pointer (some ⟨P, 0, none⟩), .pointer (some ⟨P, 0, none⟩), .pointer (some ⟨P, 0, none⟩), .pointer (some ⟨P, 3, none⟩), .slice D x.hb.length cs, .int .i64 x.hb.length, I k, .bool true, I k, .pointer (some ⟨P, 0, none⟩), I k, U64 0, .bool false, .pointer (some ⟨P, 0, none⟩), I k, .func (.func 57) #[] #[.pointer (some ⟨Bp, 0, none⟩), .pointer (some ⟨Bt, 0, none⟩)], encS x k y, undef, undef, undef, undef, undef, undef, undef, undef, undef, undef, undef, undef, undef, undef, undef, undef, undef, undef, undef, undef, undef, undef, undef, undef, undef, undef, undef, undef, u59, undef, undef], defers := [] })
          (fun y a' _ X Y row hs hg hr => by
            obtain ⟨Ba, h1, h2, h3⟩ := hs
            exact ⟨Ba, h1, box_own h2 hg (fun r e => (hr r e).2), h3⟩)
          ?assign ?body ?done ?stop
        case stop =>
          rintro D c pre W _ _ h _
          exact h.elim
        case assign =>
          rintro lp pre y W K ⟨⟨v, hv, hrow, hvb⟩, hF⟩ hK
          unfold encS at hK ⊢
          obtain ⟨r0, hr0⟩ : ∃ r0, (srcs x k)[y] = r0 := ⟨_, rfl⟩
          rw [hr0] at hK ⊢
          generalize setN (expP x r0 k) = r1 at *
          gi_wp2
          exact hK _ _ ((KeepsOthers.alloc _ _).from _) ((Frm.refl _ _ W).alloc hF.size _) ⟨⟨v, hv.alloc _, hrow.alloc _, hvb⟩, hF.alloc hF.size _⟩ ⟨W.heap.size, hF.size, Box.new W _ 83, rfl⟩
        case done =>
          rintro D xs W hD rfl ⟨⟨v, hv, hrow, hvb⟩, hF⟩ hK
          rw [HNAk.out] at hrow
          have hzW := hF.size
          have hBW : Below w2.heap.size w2 W := HB24.out.trans (hF.below (by omega) (fun j hj h => by have := HS0z.out j h; omega))
          have h4W : Boxed W w2.heap.size 63 (.pointer (some ⟨P, 0, none⟩)) := boxed_frm H44.out hF (by omega) (fun h => h.elim (fun e => by omega) (HSrow.out _ _ _ H44.out (by decide)))
          have hMW : Marks (w2.heap.size + 2) (D :: Ds) W := by
            have hm := HM4.out
            refine ⟨List.nodup_cons.2 ⟨fun h => by have := hm.lt D h; omega, hm.1⟩, fun D' hD' => ?_⟩
            rcases List.mem_cons.1 hD' with rfl | hD'
            · exact ⟨by omega, hK⟩
            · exact ⟨(hm.2 D' hD').1, (hF.block D' (hm.lt D' hD') (fun h => h.elim (fun e => marks_box hm HV4.out D' hD' e) (fun e => marks_row hm HROW4.out D' hD' e))).trans (hm.2 D' hD').2⟩
          gi_wp2
          refine ⟨⟨D :: Ds, ?_⟩, ?measure⟩
          · (repeat apply Exists.intro)
            refine ⟨?rel, rfl⟩
            exact ⟨show _ = I (k + 1 : Nat) by go_num, hlt, HTN, hBW, by omega, Lib.hid h4W, Lib.hid ⟨v, hv, hrow⟩, Lib.hid hMW⟩
          case measure => first | (simp [intOf]; done) | (simp [intOf]; omega)
        case body =>
          rintro lp pre y a' W hl ⟨r, hr⟩ ⟨⟨v, hv, hrow, hvb⟩, hF⟩ ⟨Ba, hBa, bA, rfl⟩ hlt2
          have hzW := hF.size
          have HBW : Hid (Below w2.heap.size w2 W) := Lib.hid (HB24.out.trans (hF.below (by omega) (fun j hj h => by have := HS0z.out j h; omega)))
          have h4W : Boxed W w2.heap.size 63 (.pointer (some ⟨P, 0, none⟩)) := boxed_frm H44.out hF (by omega) (fun h => h.elim (fun e => by omega) (HSrow.out _ _ _ H44.out (by decide)))
          have h6W : Boxed W wr.heap.size 3 (I k) := boxed_frm H64.out hF (by omega) (fun h => h.elim (fun e => by omega) (HSrow.out _ _ _ H64.out (by decide)))
          have HON := Lib.hid (onlyQ_nil x k (srcs x k)[y])
          have HOS := Lib.hid fun pre' y' => onlyQ_snoc x k (srcs x k)[y] pre' y'
          have HOA := Lib.hid (onlyQ_all x k (srcs x k)[y])
          have HNS := Lib.hid (nedQ_snoc x k pre y)
          have HQL := Lib.hid (nedQ_len x k pre)
          have HOL := Lib.hid fun pre' => setN_lt (onlyQ x k (srcs x k)[y] pre')
          unfold encS
          have hq := setN_lt (expP x (srcs x k)[y] k)
          have hn := setN_lt (needP x k)
          obtain ⟨f, hf⟩ : ∃ f, (srcs x k)[y] = f := ⟨_, rfl⟩
          rw [hf] at HON HOS HOA HNS HOL hq bA ⊢
          obtain ⟨q, hq2⟩ : ∃ q, setN (expP x f k) = q := ⟨_, rfl⟩
          rw [hq2] at HON hq bA ⊢
          obtain ⟨nd, hnd⟩ : ∃ nd, setN (needP x k) = nd := ⟨_, rfl⟩
          rw [hnd] at HON hn H42k
          have HOL0 := HOL.out []
          rw [← HON.out] at HOL0
          have hand := andU nd q hn hq
          obtain ⟨s0, hs0⟩ : ∃ s0, nd &&& q = s0 := ⟨_, rfl⟩
          rw [hs0] at HON HOL0 hand
          clear hf hq2 hnd hs0
          have HBA := Lib.hid bA
          obtain ⟨n1, _⟩ := bA.at_ 1 _ rfl
          have c4 := h4W.cell
          have c6 := h6W.cell
          gi_wp2_with (fail)
          refine wpIn_mono (Q := fun e a' w' => e = .normal ∧ At12 W s0 (fun b8 => #[.agg #[.slice A x.hb.length c, .slice B x.er.length d, I x.en], .pointer (some ⟨w.heap.size, 0, none⟩), .slice none 0 0, .int .i64 0, .pointer (some ⟨w2.heap.size, 0, none⟩), .pointer (some ⟨w2.heap.size + 1, 0, none⟩), .pointer (some ⟨wr.heap.size, 0, none⟩), .pointer (some ⟨Ba, 0, none⟩), .pointer (some ⟨b8, 0, none⟩), undef, .agg #[.slice A x.hb.length c, .slice B x.er.length d, I x.en], .bool true, .bool false, .agg #[.slice A x.hb.length c, .slice B x.er.length d, I x.en], .pointer (some ⟨P, 0, none⟩), .pointer (some ⟨P, 0, none⟩), .pointer (some ⟨P, 0, none⟩), .pointer (some ⟨P, 3, none⟩), .slice D x.hb.length cs, .int .i64 x.hb.length, I k, .bool true, I k, .pointer (some ⟨P, 0, none⟩), I k, U64 0, .bool false, .pointer (some ⟨P, 0, none⟩), I k, .func (.func 57) #[] #[.pointer (some ⟨Bp, 0, none⟩), .pointer (some ⟨Bt, 0, none⟩)], .agg #[I f, U64 q], .pointer (some ⟨P, 0, none⟩), I k, U64 nd, .pointer (some ⟨Ba, 1, none⟩), U64 q, U64 s0, undef, undef, undef, undef, undef, undef, undef, undef, undef, undef, undef, undef, undef, undef, undef, undef, undef, undef, undef, undef, undef, undef, u59, undef, undef]) a' w') ?_ ?_
          · show Code.wpIn (Fence.wide.inRound lp) _ _ _ _ _ _
            refine wpIn_region_planR (F := Fence.wide) (Plan.ons [0, 1, 3, 4] (.two 2 (Plan.ons [5, 6, 7] .fin) 6 (Plan.ons [2, 5, 7] .fin))) [0, 1, 3, 4, 5] (fun W' => W'.cell? ⟨w2.heap.size, 0, none⟩ = some (.pointer (some ⟨P, 0, none⟩)) ∧ W'.cell? ⟨wr.heap.size, 0, none⟩ = some (I k) ∧ W'.cell? ⟨Ba, 1, none⟩ = some (U64 q)) [7] rfl (by kernel_rfl) (by kernel_rfl) (by kernel_rfl) (fun _ _ _ _ _ h => by cases h.1) ⟨c4, c6, n1⟩ ?_
            (refine ordQ_held (.pointer (some ⟨P, 0, none⟩)) rfl rfl rfl rfl (fun W' hC' => ?_) (fun K hK => ?_); (focus (obtain ⟨g0, g1, g2⟩ := hC'; go_simp; try exact ⟨rfl, rfl⟩)); go_simp; refine hK _ ?_; clear hK K)
            (refine ordQ_held (I k) rfl rfl rfl rfl (fun W' hC' => ?_) (fun K hK => ?_); (focus (obtain ⟨g0, g1, g2⟩ := hC'; go_simp; try exact ⟨rfl, rfl⟩)); go_simp; refine hK _ ?_; clear hK K)
            (refine ordQ_held (.pointer (some ⟨Ba, 1, none⟩)) rfl rfl rfl rfl (fun W' hC' => ?_) (fun K hK => ?_); (focus (obtain ⟨g0, g1, g2⟩ := hC'; go_simp; try exact ⟨rfl, rfl⟩)); go_simp; refine hK _ ?_; clear hK K)
            (refine ordQ_held (U64 q) rfl rfl rfl rfl (fun W' hC' => ?_) (fun K hK => ?_); (focus (obtain ⟨g0, g1, g2⟩ := hC'; go_simp; try exact ⟨rfl, rfl⟩)); go_simp; refine hK _ ?_; clear hK K)
            refine ordQ_two rfl rfl rfl rfl (fun K hK => ?_) (fun K hK => ?_)
            · gi_wp2_with (refine And.intro trivial ?_; gi_at_call 42; refine callsIn_wide.2 ((H42k.out _ HBW.out.drew).mono ?_); rintro e w6 ⟨rfl, hB6⟩)
              have hB6' : Below W.heap.size W w6 := (Below.refl _ W).drew.trans hB6
              have hz6 := hB6'.size
              have d4 := (hB6'.cell (p := ⟨w2.heap.size, 0, none⟩) h4W.lt).trans c4
              have d6 := (hB6'.cell (p := ⟨wr.heap.size, 0, none⟩) h6W.lt).trans c6
              have d1 := (hB6'.cell (p := ⟨Ba, 1, none⟩) bA.1).trans n1
              refine hK _ _ (fun _ => ⟨d4, d6, d1⟩) ?_
              clear hK K
              (refine ordQ_held (U64 s0) rfl rfl rfl rfl (fun W' hC' => ?_) (fun K hK => ?_); (focus (obtain ⟨g0, g1, g2⟩ := hC'; go_simp; try exact ⟨rfl, rfl⟩)); go_simp; refine hK _ ?_; clear hK K)
              refine ordQ_hv rfl rfl rfl (fun K hK => ?_)
              gi_wp2
              have hB7 : Below w6.heap.size w6 (w6.alloc (.cells #[U64 0] 61)) := below1 _ _
              refine hK _ _ (fun _ => ⟨(hB7.cell (p := ⟨w2.heap.size, 0, none⟩) (by have := h4W.lt; show w2.heap.size < _; omega)).trans d4, (hB7.cell (p := ⟨wr.heap.size, 0, none⟩) (by have := h6W.lt; show wr.heap.size < _; omega)).trans d6, (hB7.cell (p := ⟨Ba, 1, none⟩) (by have := bA.1; show Ba < _; omega)).trans d1⟩) ?_
              clear hK K
              refine ordQ_hv rfl rfl rfl (fun K hK => ?_)
              gi_wp2
              refine hK _ _ (fun h => by cases h) ?_
              refine ordQ_fin ⟨rfl, w6.heap.size, hz6, by first | exact (Boxed.new w6 61 (U64 0)).set _ | exact Boxed.new w6 61 _, hB6'.alloc hz6 _, rfl⟩
            · gi_wp2
              have hB7 : Below W.heap.size W (W.drew.alloc (.cells #[U64 0] 61)) := (Below.refl _ W).drew.alloc (Nat.le_refl _) _
              have d4 := (hB7.cell (p := ⟨w2.heap.size, 0, none⟩) h4W.lt).trans c4
              have d6 := (hB7.cell (p := ⟨wr.heap.size, 0, none⟩) h6W.lt).trans c6
              have d1 := (hB7.cell (p := ⟨Ba, 1, none⟩) bA.1).trans n1
              have h8 : Boxed (W.drew.alloc (.cells #[U64 0] 61)) W.heap.size 61 (U64 0) := Boxed.new W.drew 61 (U64 0)
              refine hK _ _ (fun _ => ⟨d4, d6, d1⟩) ?_
              clear hK K
              refine ordQ_hv rfl rfl rfl (fun K hK => ?_)
              gi_wp2_with (refine And.intro trivial ?_; gi_at_call 42; refine callsIn_wide.2 ((H42k.out _ (HBW.out.trans (hB7.mono HBW.out.size))).mono ?_); rintro e w6 ⟨rfl, hB6⟩)
              have hB6' : Below W.heap.size W w6 := hB7.trans (hB6.mono (by simp))
              have h86 := h8.kept (grown_of_below hB6) (by simp)
              have hc8 := h86.cell
              have hf8 := h86.frozen
              refine hK _ _ (fun _ => ⟨(hB6'.cell (p := ⟨w2.heap.size, 0, none⟩) h4W.lt).trans c4, (hB6'.cell (p := ⟨wr.heap.size, 0, none⟩) h6W.lt).trans c6, (hB6'.cell (p := ⟨Ba, 1, none⟩) bA.1).trans n1⟩) ?_
              clear hK K
              (refine ordQ_held (U64 s0) rfl rfl rfl rfl (fun W' hC' => ?_) (fun K hK => ?_); (focus (obtain ⟨g0, g1, g2⟩ := hC'; go_simp; try exact ⟨rfl, rfl⟩)); go_simp; refine hK _ ?_; clear hK K)
              refine ordQ_hv rfl rfl rfl (fun K hK => ?_)
              gi_wp2
              refine hK _ _ (fun h => by cases h) ?_
              refine ordQ_fin ⟨rfl, W.heap.size, Nat.le_refl _, h86.set _, hB6'.setCell (p := ⟨W.heap.size, 0, none⟩) (Nat.le_refl _) _, rfl⟩
          · rintro e a' w6 ⟨rfl, b8, hb8, h8, hB6, rfl⟩
            have hz6 := hB6.size
            have h46 := h4W.kept (grown_of_below hB6) (by simp)
            have h66 := h6W.kept (grown_of_below hB6) (by simp)
            have d4 := h46.cell
            have d6 := h66.cell
            have h8z := h8.lt
            gi_wp2_with (refine And.intro trivial ?_; gi_at_call 41; refine callsIn_wide.2 ((sources41 P k _).mono ?_); rintro e V0 ⟨Bp2, Bt2, rfl, hsr2, hB0⟩)
            have hzV := hB0.size
            have HBV : Hid (Below W.heap.size W V0) := Lib.hid (hB6.trans (hB0.mono hz6))
            have h8V := h8.kept (grown_of_below hB0) (by simp)
            obtain ⟨hbp2, hbt2, hd0, hd1⟩ := hsr2
            have hr' : V0.heap[lp]? = some (.loop r) := (HBV.out.block lp (Array.getElem?_eq_some_iff.1 hr).1).trans hr
            have HB2V : Hid (Below w2.heap.size w2 V0) := Lib.hid (HBW.out.trans (HBV.out.mono HBW.out.size))
            clear d4 d6 h46 h66 c4 c6 n1 hB0 hB6
            have hzBa := bA.1
            have hp6 : pre.length < 6 := by omega
            refine wpIn_rangeFunc_ownN (F := Fence.wide.inRound lp) (n := 7) (l₀ := lp) (r₀ := r) rfl hr' (by decide) (gf := 57) (lb := #[.pointer (some ⟨Bp2, 0, none⟩), .pointer (some ⟨Bt2, 0, none⟩)]) rfl trivial (enters_of Try.func57 (by kernel_rfl) rfl)
              ((srcs_t HX.out HRR.out hlt 6 (by decide) Bp2 Bt2 V0.heap.size (· = b8) ⟨HB2V.out.size, fun j h => by have := HBW.out.size; omega⟩ ⟨hbp2.2, by omega⟩ ⟨hbt2.2, by omega⟩ V0 (Nat.le_refl _) HB2V.out hd0 hd1).inRound lp) frmK_t (frmK_b (Nat.le_refl _)) (Below.refl _ _) (fun _ => rfl)
              (fun pre' W' => Boxed W' b8 61 (U64 (setN (onlyQ x k f pre'))) ∧ Frm V0.heap.size (· = b8) V0 W')
              (fun _ _ _ => False)
              (OwnFrom.and (Own.from (boxed_own _ _ _) _) (ownFrom_frm (Nat.le_refl _) (Nat.le_refl _)))
              (fun _ _ _ _ _ hs _ _ => hs)
              ⟨by rw [← HON.out]; exact h8V, Frm.refl _ _ _⟩
              (fun y2 a' W => ∃ Bb : Nat, V0.heap.size ≤ Bb ∧ Box W Bb [I ((srcs x k)[y2] : Nat), U64 (setN (expP x (srcs x k)[y2] k))] ∧ a' = { tmps := #[.agg #[.slice A x.hb.length c, .slice B x.er.length d, I x.en], .pointer (some ⟨w.heap.size, 0, none⟩), .slice none 0 0, .int .i64 0, .pointer (some ⟨w2.heap.size, 0, none⟩), .pointer (some ⟨w2.heap.size + 1, 0, none⟩), .pointer (some ⟨wr.heap.size, 0, none⟩), .pointer (some ⟨Ba, 0, none⟩), .pointer (some ⟨b8, 0, none⟩), .pointer (some ⟨Bb, 0, none⟩), .agg #[.slice A x.hb.length c, .slice B x.er.length d, I x.en], .bool true, .bool false, .agg #[.slice A x.hb.length c, .slice B x.er.length d, I x.en], .pointer (some ⟨P, 0, none⟩), .pointer (some ⟨P, 0, none⟩), .pointer (some ⟨P, 0, none⟩), .pointer (some ⟨P, 3, none⟩), .slice D x.hb.length cs, .int .i64 x.hb.length, I k, .bool true, I k, .pointer (some ⟨P, 0, none⟩), I k, U64 0, .bool false, .pointer (some ⟨P, 0, none⟩), I k, .func (.func 57) #[] #[.pointer (some ⟨Bp, 0, none⟩), .pointer (some ⟨Bt, 0, none⟩)], .agg #[I f, U64 q], .pointer (some ⟨P, 0, none⟩), I k, U64 nd, .pointer (some ⟨Ba, 1, none⟩), U64 q, U64 s0, .pointer (some ⟨P, 0, none⟩), I k, .func (.func 57) #[] #[.pointer (some ⟨Bp2, 0, none⟩), .pointer (some ⟨Bt2, 0, none⟩)], encS x k y2, undef, undef, undef, undef, undef, undef, undef, undef, undef, undef, undef, undef, undef, undef, undef, undef, undef, undef, u59, undef, undef], defers := [] })
              (fun y2 a' _ X Y row hs hg hr => by
                obtain ⟨Bb, h1, h2, h3⟩ := hs
                exact ⟨Bb, h1, box_own h2 hg (fun r e => (hr r e).2), h3⟩)
              ?assign2 ?body2 ?done2 ?stop2
            case stop2 =>
              rintro c pre W _ h
              exact h.elim
            case assign2 =>
              rintro lp2 pre2 y2 W5 K ⟨k1, k2⟩ hK
              unfold encS at hK ⊢
              obtain ⟨r0, hr0⟩ : ∃ r0, (srcs x k)[y2] = r0 := ⟨_, rfl⟩
              rw [hr0] at hK ⊢
              generalize setN (expP x r0 k) = r1 at *
              gi_wp2
              exact hK _ _ ((KeepsOthers.alloc _ _).from _) ((Frm.refl _ _ W5).alloc k2.size _) ⟨k1.alloc _, k2.alloc k2.size _⟩ ⟨W5.heap.size, k2.size, Box.new W5 _ 83, rfl⟩
            case body2 =>
              rintro lp2 pre2 y2 a' W5 hl2 ⟨r2, hr2⟩ ⟨h85, hF5⟩ ⟨Bb, hBb, bB, rfl⟩ hlt3
              have HSN := Lib.hid (HOS.out pre2 y2)
              have hs1 := HOL.out pre2
              have hs2 := setN_lt (expP x (srcs x k)[y2] k)
              have hs3 := HOL.out (pre2 ++ [y2])
              have hzBa2 : Ba < V0.heap.size := by omega
              have bA5 : Box W5 Ba [I f, U64 q] := (HBA.out.call HBV.out).keep hF5.size (fun o => hF5.cell hzBa2 (by omega)) (fun o => hF5.frozen hzBa2 (by omega))
              obtain ⟨a0, _⟩ := bA5.at_ 0 _ rfl
              unfold encS
              obtain ⟨g, hg⟩ : ∃ g, (srcs x k)[y2] = g := ⟨_, rfl⟩
              rw [hg] at HSN hs2 bB ⊢
              obtain ⟨qg, hqg⟩ : ∃ qg, setN (expP x g k) = qg := ⟨_, rfl⟩
              rw [hqg] at HSN hs2 bB ⊢
              obtain ⟨s5, hs5⟩ : ∃ s5, setN (onlyQ x k f pre2) = s5 := ⟨_, rfl⟩
              rw [hs5] at HSN hs1 h85
              obtain ⟨s9, hs9⟩ : ∃ s9, setN (onlyQ x k f (pre2 ++ [y2])) = s9 := ⟨_, rfl⟩
              rw [hs9] at HSN hs3
              have HS9 := Lib.hid hs9
              obtain ⟨b0, _⟩ := bB.at_ 0 _ rfl
              obtain ⟨b1, _⟩ := bB.at_ 1 _ rfl
              have hc8 := h85.cell
              have hf8 := h85.frozen
              clear hg hqg hs5 hs9
              by_cases hgf : g = f
              · have hss : s9 = s5 := by rw [HSN.out]; simp [hgf]
                have hgi : ((g : Int) == (f : Int)) = true := by simp [hgf]
                gi_wp2
                exact ⟨KeepsFrom.refl _ _, Frm.refl _ _ _, by rw [HS9.out, hss]; exact h85, hF5⟩
              · have hss : s9 = s5 &&& (18446744073709551615 - qg) := by rw [HSN.out]; simp [hgf]
                have hgi : ¬ (g : Int) = (f : Int) := by omega
                have hgb : ((g : Int) == (f : Int)) = false := by simpa using hgi
                have hanu := andNotU s5 qg hs1 hs2
                rw [← hss] at hanu
                have hwu := wrapU _ hs3
                clear hss
                gi_wp2
                exact ⟨(KeepsOthers.setCell _ _ _).from _, Frm.setCell (N := V0.heap.size) (S := fun j => j = b8) (Frm.refl _ _ W5) (p := ⟨b8, 0, none⟩) (.inr rfl) _, by rw [HS9.out]; exact h85.set _, Frm.setCell (N := V0.heap.size) (S := fun j => j = b8) hF5 (p := ⟨b8, 0, none⟩) (.inr rfl) _⟩
            case done2 =>
              rintro xs W8 rfl ⟨h88, hF8⟩
              rw [HOA.out] at h88
              have HB8 : Hid (Below W.heap.size W W8) := Lib.hid (HBV.out.trans (hF8.below (by omega) (fun j hj e => by omega)))
              have hz8 := HB8.out.size
              have hv8 := hv.kept (grown_of_below HB8.out) (by simp)
              have hrow8 := grown_own hrow HB8.out
              have hF48 : Frm w4.heap.size (fun j => j = w2.heap.size + 1 ∨ v0.ownBlock = some j) w4 W8 := hF.then_ HB8.out hzW
              have HKW8 : Hid (KeepsFrom w4.heap.size W W8) := Lib.hid ⟨hz8, fun j o _ hj _ => (HB8.out.block j (Array.getElem?_eq_some_iff.1 hj).1).trans hj⟩
              have HFW8 : Hid (Frm w4.heap.size (fun j => j = w2.heap.size + 1 ∨ v0.ownBlock = some j) W W8) := Lib.hid (Frm.of_below HB8.out hzW)
              obtain ⟨s1, hs1⟩ : ∃ s1, setN (onlyP x k f) = s1 := ⟨_, rfl⟩
              rw [hs1] at h88 HNS
              clear hs1
              have hc8 := h88.cell
              by_cases hz : s1 = 0
              · subst hz
                have hnn : nedQ x k (pre ++ [y]) = nedQ x k pre := by rw [HNS.out]; simp
                gi_wp2
                exact ⟨HKW8.out, HFW8.out, ⟨v, hv8, by rw [hnn]; simpa using hrow8, hvb⟩, hF48⟩
              · have hnz : ¬ (s1 : Int) = 0 := by omega
                have hnn : o ++ lnk k (nedQ x k (pre ++ [y])) = (o ++ lnk k (nedQ x k pre)) ++ [((f : Int), (k : Int))] := by rw [HNS.out, if_neg hz, lnk_app, List.append_assoc]
                have HFL : Hid (flat2 (o ++ lnk k (nedQ x k (pre ++ [y]))) = flat2 (o ++ lnk k (nedQ x k pre)) ++ [I f, I k]) := Lib.hid (by rw [hnn, flat2_app]; simp [flat2])
                have HLL : Hid ((o ++ lnk k (nedQ x k (pre ++ [y]))).length = (o ++ lnk k (nedQ x k pre)).length + 1) := Lib.hid (by rw [hnn, List.length_append]; rfl)
                have HLM : Hid (o.length + (lnk k (nedQ x k (pre ++ [y]))).length = (o ++ lnk k (nedQ x k pre)).length + 1) := Lib.hid (by rw [← HLL.out, List.length_append])
                have bA8 : Box W8 Ba [I f, U64 q] := HBA.out.call HB8.out
                obtain ⟨a0, _⟩ := bA8.at_ 0 _ rfl
                have h68 := h6W.kept (grown_of_below HB8.out) (by simp)
                have c6 := h68.cell
                have hc5 := hv8.cell
                have hln : (o ++ lnk k (nedQ x k pre)).length ≤ 100 := by have := HQL.out; rw [List.length_append, lnk_len]; omega
                generalize flat2 (o ++ lnk k (nedQ x k pre)) = xs0 at *
                generalize (o ++ lnk k (nedQ x k pre)).length = n0 at *
                clear hnn
                gi_wp2_with (gi_at_builtin; refine wpListIn_append_own_at _ rfl _ _ 74 rfl (w2.heap.size + 2) 84 i0 (.agg #[I 0, I 0]) 2 16 Try.underlying74 hi0 hi1 hi2 hi3 rfl (by decide) _ _ _ rfl (hrow8.alloc _) ⟨W8.heap.size, 0, none⟩ 1 1 [I f, I k] rfl rfl (cells_new W8 [I f, I k] 84) (by simp [Value.oneCell']) (by simp [maxLen]; omega) (by omega) (by simp; omega) ?_; intro v' w9 hown' hgrow _ hat; obtain ⟨g', cap', rfl⟩ := ownsRow_succ hown'; obtain ⟨hv1, hv2, hr2, hk2, hb2⟩ := hv8.appended (n₀ := w2.heap.size + 1) (by decide) (row_mono hrow8 (by omega)) (by omega) (Nat.le_refl _) (row_mono hown' (by omega)) hgrow; have hc1 := hv1.cell; have hf1 := hv1.frozen)
                have hG : ∀ {a : World}, Frm w4.heap.size (fun j => j = w2.heap.size + 1 ∨ v0.ownBlock = some j) a W8 → Frm w4.heap.size (fun j => j = w2.heap.size + 1 ∨ v0.ownBlock = some j) a (w9.setCell ⟨w2.heap.size + 1, 0, none⟩ (.slice (some ⟨g', 0, none⟩) (n0 + 1) cap')) := fun h =>
                  ((h.alloc (by omega) _).grown hgrow (by simp; omega) (fun j ej => by
                    rcases hvb with h | h
                    · exact .inr (.inr (by rw [← h]; exact ej))
                    · exact .inl (h j ej))).setCell (Or.inr (.inl rfl)) _
                exact ⟨HKW8.out.trans (hk2.from _), hG HFW8.out, ⟨_, hv2, by
                  first | rw [HFL.out, HLL.out] | rw [HFL.out, HLM.out]
                  exact hown'.kept (grownBy_setCell' w9 (w2.heap.size + 1) _) (.inr (hv1.not_row (by decide) hown').symm), by
                  rcases hat with h | h
                  · rw [h]; exact hvb
                  · refine .inr fun j e => ?_
                    rw [h] at e
                    injection e with e
                    simp at e
                    omega⟩, hG hF48⟩
      · have he : enB x k (srcs x k) = false := by
          cases h : enB x k (srcs x k) with
          | false => rfl
          | true => exact absurd (HENk.out.2 h) hs0
        have HTN : Hid (nedTo x (k + 1) = none) := Lib.hid (by unfold nedTo; rw [HT.out]; simp only; rw [he]; rfl)
        have HR : Hid (nedR x = ([], 4)) := Lib.hid (HRN.out (k + 1) hlt HTN.out)
        have hs1 : ¬ (sp : Int) = 0 := by omega
        have hsb : ((sp : Int) == 0) = false := by simpa using hs1
        clear HENk HTN
        gi_wp2_with (first
          | (refine And.intro trivial ?_; gi_at_call 33; refine (callsIn_wide.2 (H33k.out _ hBw)).mono ?_; rintro e w3 ⟨rfl, hB3⟩)
          | fail)
        have hBr3 : Below wr.heap.size wr w3 := (below1 wr (.cells #[I k] 3)).trans (hB3.mono (by simp))
        have hB23 : Below w2.heap.size w2 w3 := hB.trans (hBr3.mono (by omega))
        have hM3 := HM.out.call hBr3
        refine leavesM_marks (B := w2.heap.size + 2) Ds _ hM3 fun W' hB' _ => ?_
        refine ⟨.tuple #[.slice none 0 0, I 4], by simp [results, Try.results17, go_sem], none, 0, by rw [HR.out]; rfl, by rw [HR.out]; exact fun h => absurd h (by simp), ?_⟩
        exact (HB2.out.trans (hB23.mono (by omega))).trans (hB'.mono (by omega))
    · have HR : Hid (nedR x = (o, 0)) := Lib.hid (HRS.out o (by rw [← HT.out]; congr 1; omega))
      have hol : o.length ≤ 1000 := by omega
      obtain ⟨v, hv, hrow⟩ := H5.out
      have H39 := Lib.hid (sorted39 (w2.heap.size + 2) v o wr hrow (by omega) hol ho2)
      have HMR := Lib.hid (marks_row HM.out hrow)
      have hc5 := hv.cell
      clear ho2 hrow
      gi_wp2_with (first
        | (refine And.intro trivial ?_; gi_at_call 39; refine (callsIn_wide.2 H39.out).mono ?_; rintro e w7 ⟨A7, c7, rfl, htw, hB7, hF7⟩)
        | fail)
      have hM7 : Marks (w2.heap.size + 2) Ds w7 := HM.out.keep fun D hD => hF7.block D (HM.out.lt D hD) (HMR.out D hD)
      have hB27 : Below w2.heap.size w2 w7 := hB.trans (hB7.mono (by omega))
      refine leavesM_marks (B := w2.heap.size + 2) Ds _ hM7 fun W' hB' hk' => ?_
      refine ⟨.tuple #[.slice A7 o.length c7, I 0], by simp [results, Try.results17, go_sem], A7, c7, by rw [HR.out], by rw [HR.out]; exact twos_marks htw hM7 hB' hk', ?_⟩
      exact (HB2.out.trans (hB27.mono (by omega))).trans (hB'.mono (by omega))
end Go.Proofs.Ytijgfdncocjncaa
