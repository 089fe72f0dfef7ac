/- The document's sources, with the capacity; words for rows of rows. -/
import Derived.Test.YtijgfdncocjncaaD10
namespace Go.Proofs.Ytijgfdncocjncaa
set_option linter.unusedVariables false
set_option linter.unusedSimpArgs false
open Go Go.RowKit

theorem own_cap {w : World} {base n k c size : Nat} {e : TypeId} {A : Option Addr} {xs : List Value} (h : w.ownsRow base e size (.slice A k c) n xs) : n ≤ c := by
  rcases h.2 with ⟨h1, h2⟩ | ⟨g, cap, cur, h1, _, _, h4, _⟩
  · cases h1; omega
  · cases h1; exact h4
theorem own_low {w : World} {base n size : Nat} {e : TypeId} {v : Value} {xs : List Value} (h : w.ownsRow base e size v n xs) : w.ownsRow 0 e size v n xs := ⟨h.1, h.2.imp id fun ⟨g, cap, cur, h1, _, h2⟩ => ⟨g, cap, cur, h1, Nat.zero_le _, h2⟩⟩
/-- Rows of ints of one's own stay. -/
def KeepI (w w' : World) : Prop := ∀ v n xs, w.ownsRow 0 3 1 v n xs → w'.ownsRow 0 3 1 v n xs
theorem KeepI.refl (w : World) : KeepI w w := fun _ _ _ h => h
theorem KeepI.trans {a b c : World} (h : KeepI a b) (k : KeepI b c) : KeepI a c := fun v n xs hi => k v n xs (h v n xs hi)
theorem keep_below {w w' : World} (hB : Below w.heap.size w w') : KeepI w w' := fun _ _ _ h => grown_own h hB
theorem keep_grown {w w' : World} {base n : Nat} {O : Value} {Vs : List Value} (h : w.ownsRow base 33 1 O n Vs) (hg : w.grownBy w' O.ownBlock) : KeepI w w' := fun v m xs hi => hi.kept hg (by
  rcases hi.2 with ⟨rfl, _⟩ | ⟨g, cap, cur, rfl, _, h1, _⟩
  · exact .inl rfl
  · refine .inr fun e => ?_
    rcases h.2 with ⟨rfl, _⟩ | ⟨g', cap', cur', rfl, _, h2, _⟩
    · cases e
    · simp only [Value.ownBlock, Option.some.injEq] at e
      subst e
      rw [h1] at h2
      cases h2)
def natI (l : List Nat) : List Value := l.map fun i : Nat => I i
theorem natI_len (l : List Nat) : (natI l).length = l.length := by unfold natI; simp
theorem natI_map (l : List Nat) : natI l = (l.map fun i : Nat => (i : Int)).map I := by unfold natI; simp
/-- A row of rows of numbers. -/
def OutOk (w : World) (base : Nat) (O : Value) (LL : List (List Nat)) : Prop :=
  ∃ Vs : List Value, w.ownsRow base 33 1 O LL.length Vs ∧ ∀ k (h : k < LL.length), ∃ v, Vs[k]? = some v ∧ w.ownsRow 0 3 1 v (LL[k]).length (natI LL[k])
theorem OutOk.below {w w' : World} {base : Nat} {O : Value} {LL : List (List Nat)} (h : OutOk w base O LL) (hB : Below w.heap.size w w') : OutOk w' base O LL := by
  obtain ⟨Vs, h1, h2⟩ := h
  refine ⟨Vs, grown_own h1 hB, fun k hk => ?_⟩
  obtain ⟨v, h3, h4⟩ := h2 k hk
  exact ⟨v, h3, grown_own h4 hB⟩
theorem OutOk.more {w w' : World} {base : Nat} {O O' : Value} {LL : List (List Nat)} {b : List Nat} {v : Value} {Vs : List Value} (h1 : w.ownsRow base 33 1 O LL.length Vs) (h2 : ∀ k (h : k < LL.length), ∃ v, Vs[k]? = some v ∧ w.ownsRow 0 3 1 v (LL[k]).length (natI LL[k]))
    (hv : w.ownsRow 0 3 1 v b.length (natI b)) (hK : KeepI w w') (h : w'.ownsRow base 33 1 O' (LL.length + 1) (Vs ++ [v])) : OutOk w' base O' (LL ++ [b]) := by
  have hl : Vs.length = LL.length := by have := h1.1; omega
  refine ⟨Vs ++ [v], by rw [List.length_append]; exact h, fun k hk => ?_⟩
  rw [List.length_append] at hk
  simp only [List.length_cons, List.length_nil] at hk
  by_cases e : k < LL.length
  · obtain ⟨v2, h3, h4⟩ := h2 k e
    rw [List.getElem_append_left e]
    exact ⟨v2, by rw [List.getElem?_append_left (by omega)]; exact h3, hK _ _ _ h4⟩
  · obtain rfl : k = LL.length := by omega
    rw [List.getElem_append_right (Nat.le_refl _)]
    simp only [Nat.sub_self, List.getElem_cons_zero]
    exact ⟨v, by rw [List.getElem?_append_right (by omega), hl]; simp, hK _ _ _ hv⟩
theorem chs_len : ∀ (l : List Nat) (c : Nat), (chs l c).length ≤ 2 ^ l.length
  | l, 0 => by
    have := Nat.two_pow_pos l.length
    cases l <;> simp only [chs, List.length_cons, List.length_nil] at this ⊢ <;> omega
  | [], c + 1 => by simp [chs]
  | a :: l, c + 1 => by
    simp only [chs, List.length_append, List.length_map, List.length_cons]
    have h1 := chs_len l c
    have h2 := chs_len l (c + 1)
    have h3 : 2 ^ (l.length + 1) = 2 * 2 ^ l.length := by rw [Nat.pow_succ]; omega
    omega
theorem chs_step {l : List Nat} {i : Nat} (h : i < l.length) (c : Nat) (b : List Nat) : (chs (l.drop i) (c + 1)).map (b ++ ·) = (chs (l.drop (i + 1)) c).map ((b ++ [l[i]]) ++ ·) ++ (chs (l.drop (i + 1)) (c + 1)).map (b ++ ·) := by
  rw [List.drop_eq_getElem_cons h]
  simp only [chs, List.map_append, List.map_map]
  congr 1
  refine List.map_congr_left fun r _ => ?_
  simp
theorem slice33 (R : Option Addr) (n c j : Nat) (h : j + 1 ≤ n) (w : World) : (Instr.sliceAt 33 (.slice R n c) (some (.int .i64 ((j : Int) + 1))) none none).run Try.prog w = .ok (.slice (if c = j + 1 then R else R.map (·.add (j + 1))) (n - (j + 1)) (c - (j + 1))) w := by
  have u33 : Try.prog.underlying 33 = some (.slice (Try.prog.elem 33)) := by kernel_rfl
  have s3 : ∀ w, (sizeOf (Try.prog.elem 33)).run Try.prog w = .ok 1 w := fun w => by kernel_rfl
  rw [run_sliceAt_slice (h := u33), run_slice_l (ht := u33) (h0 := by omega) (h1 := by omega), s3]
  simp only [Result.andThen, sliced]
  rw [show ((j : Int) + 1).toNat = j + 1 by omega, Nat.mul_one]
theorem ints_dropI {w : World} {B n c j : Nat} {S : Option Addr} {xs : List Int} (h : Ints w B S xs) (hn : n = xs.length) (hc : n ≤ c) (hj : j + 1 ≤ n) : Ints w B (if c = j + 1 then S else S.map (·.add (j + 1))) (xs.drop (j + 1)) := fun h0 => by
  rw [List.length_drop] at h0
  obtain ⟨b, off, rfl, h1, h2⟩ := h (by omega)
  rw [if_neg (by omega)]
  refine ⟨b, off + (j + 1), by simp [Addr.add], h1, fun k hk => ?_⟩
  rw [List.length_drop] at hk
  rw [List.getElem_drop, Nat.add_assoc]
  exact h2 _ (by omega)
set_option maxRecDepth 100000 in
set_option maxHeartbeats 8000000 in
theorem sources35c (x : Wat) (A B : Option Addr) (c d : Nat) (t : Nat) (w : World) (hx : WatOk x) (hW : WatAt w x A B) (ht : t < x.hb.length) :
    Calls Try.prog 35 #[x.val A c B d, I t] w fun e w' => ∃ A' c', e = .returned (.slice A' (srcs x t).length c') ∧ Ints w' w'.heap.size A' ((srcs x t).map fun i : Nat => (i : Int)) ∧ Below w.heap.size w w' ∧ (srcs x t).length ≤ c' ∧ w'.ownsRow 0 3 1 (.slice A' (srcs x t).length c') (srcs x t).length (((srcs x t).map fun i : Nat => (i : Int)).map I) := by
  have hn6 : x.hb.length ≤ 6 := hx.n6
  obtain ⟨i0, hi0, hi1, hi2, hi3⟩ := info_parts info3
  have H32 : Hid (∀ (W : World) (f : Nat), Below w.heap.size w W → Calls Try.prog 32 #[x.val A c B d, .agg #[I f, I t]] W fun e w' => e = .returned (I (optI (ref x f t))) ∧ Below W.heap.size W w') := Lib.hid fun W f h => refuted32 x A B c d f t W hx (hW.below h) ht
  have HSY := Lib.hid fun k => @srcI_yes x t k
  have HSN := Lib.hid fun k => @srcI_no x t k
  have HSL := Lib.hid fun k => srcI_len x t k
  have HSE : Hid (srcI x t x.hb.length = (srcs x t).map fun i : Nat => (i : Int)) := Lib.hid rfl
  have HSM : Hid ((srcs x t).length = (srcI x t x.hb.length).length) := Lib.hid (by rw [HSE.out, List.length_map])
  rw [← HSE.out, HSM.out]
  clear hx hW HSE HSM
  have HB0 : Hid (Below w.heap.size w (w.alloc (.cells #[.slice A x.hb.length c, .slice B x.er.length d, I x.en] 25))) := Lib.hid (by (repeat' (first | assumption | exact Below.refl _ _ | refine Below.drew ?_ | refine below_drewN ?_ _ | refine Below.setCell ?_ (by first | omega | (simp; done) | (simp; omega)) _ | refine Below.alloc ?_ (by first | omega | (simp; done) | (simp; omega)) _ | refine Below.trans ?_ (Below.mono (by assumption) (by first | omega | (simp; done) | (simp; omega))))))
  have HX0 : Hid (Box (w.alloc (.cells #[.slice A x.hb.length c, .slice B x.er.length d, I x.en] 25)) w.heap.size [.slice A x.hb.length c, .slice B x.er.length d, I x.en]) := Lib.hid (Box.new w [.slice A x.hb.length c, .slice B x.er.length d, I x.en] 25)
  have HZ0 : Hid ((w.alloc (.cells #[.slice A x.hb.length c, .slice B x.er.length d, I x.en] 25)).heap.size = w.heap.size + 1) := Lib.hid (by simp)
  unfold Wat.val at H32 ⊢
  go_enter Try.func35, Try.ntmps35
  go_wp2_with (fail)
  generalize w.alloc (.cells #[.slice A x.hb.length c, .slice B x.er.length d, I x.en] 25) = wa at *
  have hza := HZ0.out
  go_loopw [5, 6] (fun s5 s6 wr => ∃ k : Nat, k ≤ x.hb.length ∧ s6 = I k ∧ Below wa.heap.size wa wr ∧ Hid (wr.ownsRow wa.heap.size 3 1 s5 (srcI x t k).length ((srcI x t k).map I))) (fun _ s _ => x.hb.length - (intOf s).toNat)
  case atStart => exact ⟨0, by omega, rfl, Below.refl _ _, Lib.hid (World.ownsRow_nil _ _ _ _)⟩
  case round =>
    obtain ⟨k, hk, rfl, hB, HO⟩ := hrel
    have hzr := hB.size
    have hbx := HX0.out.call hB
    obtain ⟨c0, _⟩ := hbx.at_ 0 _ rfl
    have hX1 : w.heap.size < wr.heap.size := by omega
    by_cases hlt : k < x.hb.length
    · have p0 : (0 : Int) ≤ (k : Int) := by omega
      have p1 : (k : Int) < (x.hb.length : Int) := by omega
      have HB5 : Hid (Below wa.heap.size wa (wr.alloc (.cells #[I k, I t] 27))) := Lib.hid (hB.alloc hzr _)
      have HBw5 : Hid (Below w.heap.size w (wr.alloc (.cells #[I k, I t] 27))) := Lib.hid (HB0.out.trans (HB5.out.mono (by omega)))
      have HX5 : Hid (Box (wr.alloc (.cells #[I k, I t] 27)) w.heap.size [.slice A x.hb.length c, .slice B x.er.length d, I x.en]) := Lib.hid (hbx.alloc _)
      have HL5 : Hid (Box (wr.alloc (.cells #[I k, I t] 27)) wr.heap.size [I k, I t]) := Lib.hid (Box.new wr [I k, I t] 27)
      have HZ5 : Hid ((wr.alloc (.cells #[I k, I t] 27)).heap.size = wr.heap.size + 1) := Lib.hid (by simp)
      have HO5 := Lib.hid (HO.out.alloc (.cells #[I k, I t] 27))
      have hs5 := HO.out.lt
      have H32k := Lib.hid (H32.out _ k HBw5.out)
      have HSYk := Lib.hid (HSY.out k)
      have HSNk := Lib.hid (HSN.out k)
      have hsl := HSL.out k
      obtain ⟨x0_, _⟩ := HX5.out.at_ 0 _ rfl
      obtain ⟨x1_, _⟩ := HX5.out.at_ 1 _ rfl
      obtain ⟨x2_, _⟩ := HX5.out.at_ 2 _ rfl
      obtain ⟨l0, _⟩ := HL5.out.at_ 0 _ rfl
      obtain ⟨l1, _⟩ := HL5.out.at_ 1 _ rfl
      by_cases hkt : k = t
      · have HSS : Hid (srcI x t (k + 1) = srcI x t k) := Lib.hid (HSNk.out (.inl hkt))
        have hkb : ((k : Int) != (t : Int)) = false := by simp [hkt]
        have HO6 : Hid ((wr.alloc (.cells #[I k, I t] 27)).ownsRow wa.heap.size 3 1 u5 (srcI x t (k + 1)).length ((srcI x t (k + 1)).map I)) := Lib.hid (by rw [HSS.out]; exact HO5.out)
        clear HSYk HSNk HO5 HO hkt
        go_wp2_with (fail)
        go_roundw
        case rel => first | exact ⟨k + 1, by omega, by go_num, HB5.out, HO6⟩ | ((repeat apply Exists.intro); refine ⟨?_, rfl⟩; exact ⟨k + 1, by omega, by go_num, HB5.out, HO6⟩)
        case measure => first | (simp [intOf]; done) | (simp [intOf]; omega)
      · have hkb : ((k : Int) != (t : Int)) = true := by simp; omega
        cases hrf : ref x k t with
        | some a =>
          have HSS : Hid (srcI x t (k + 1) = srcI x t k) := Lib.hid (HSNk.out (.inr (by rw [hrf]; simp)))
          have HO6 := Lib.hid fun W (h : Below (wr.alloc (.cells #[I k, I t] 27)).heap.size (wr.alloc (.cells #[I k, I t] 27)) W) => (show W.ownsRow wa.heap.size 3 1 u5 (srcI x t (k + 1)).length ((srcI x t (k + 1)).map I) by rw [HSS.out]; exact grown_own HO5.out h)
          rw [hrf] at H32k
          dsimp only [optI] at H32k
          have hna : ¬ (a : Int) < 0 := by omega
          clear HSYk HSNk HO5 HO hkt hrf
          go_wp2_with (first | (go_at_call 32; refine H32k.out.mono ?_; rintro e w3 ⟨rfl, hB3⟩) | fail)
          go_roundw
          case rel => first | exact ⟨k + 1, by omega, by go_num, HB5.out.trans (hB3.mono HB5.out.size), Lib.hid (HO6.out _ hB3)⟩ | ((repeat apply Exists.intro); refine ⟨?_, rfl⟩; exact ⟨k + 1, by omega, by go_num, HB5.out.trans (hB3.mono HB5.out.size), Lib.hid (HO6.out _ hB3)⟩)
          case measure => first | (simp [intOf]; done) | (simp [intOf]; omega)
        | none =>
          have HSS : Hid (srcI x t (k + 1) = srcI x t k ++ [(k : Int)]) := Lib.hid (HSYk.out hkt hrf)
          rw [hrf] at H32k
          dsimp only [optI] at H32k
          have HSF : Hid ((srcI x t (k + 1)).map I = (srcI x t k).map I ++ [I k]) := Lib.hid (by rw [HSS.out]; simp)
          have HSG : Hid ((srcI x t (k + 1)).length = (srcI x t k).length + 1) := Lib.hid (by rw [HSS.out]; simp)
          clear HSYk HSNk HO hkt hrf HSS
          generalize (srcI x t k).map I = xs0 at *
          generalize (srcI x t k).length = n0 at *
          go_wp2_with (first
            | (go_at_call 32; refine H32k.out.mono ?_; rintro e w3 ⟨rfl, hB3⟩; have HO3 := Lib.hid ((grown_own HO5.out hB3).alloc (.cells #[I k] 3)); have HB3 : Hid (Below wa.heap.size wa w3) := Lib.hid (HB5.out.trans (hB3.mono HB5.out.size)); have hz3 := HB3.out.size)
            | (at_builtin; refine wpList_append_own _ rfl _ _ 33 rfl wa.heap.size 3 i0 (.int .i64 0) 1 8 Try.underlying33 hi0 hi1 hi2 hi3 rfl (by decide) _ _ _ rfl HO3.out ⟨w3.heap.size, 0, none⟩ 1 1 [I k] rfl rfl (cell_one3 w3 (I k) 3) (by simp [Value.oneCell']) (by unfold maxLen; omega) (by omega) (by simp; omega) ?_; intro v' w6 hown6 hg6 _)
            | fail)
          have HB6 : Hid (Below wa.heap.size wa w6) := Lib.hid ((HB3.out.alloc hz3 _).grown hg6 (by simp; omega) (fun g e => (hs5 g e).1))
          have HO6 : Hid (w6.ownsRow wa.heap.size 3 1 v' (srcI x t (k + 1)).length ((srcI x t (k + 1)).map I)) := Lib.hid (by rw [HSF.out, HSG.out]; exact hown6)
          clear hown6 hg6 HO3 HO5 HSF HSG
          go_wp2_with (fail)
          go_roundw
          case rel => first | exact ⟨k + 1, by omega, by go_num, HB6.out, HO6⟩ | ((repeat apply Exists.intro); refine ⟨?_, rfl⟩; exact ⟨k + 1, by omega, by go_num, HB6.out, HO6⟩)
          case measure => first | (simp [intOf]; done) | (simp [intOf]; omega)
    · obtain rfl : k = x.hb.length := by omega
      obtain ⟨A', c', hv, hT⟩ := ints_ownN HO.out rfl
      subst hv
      have HT := Lib.hid hT
      have hcap := own_cap HO.out
      have HOL := Lib.hid (own_low HO.out)
      have HBF : Hid (Below w.heap.size w wr) := Lib.hid (HB0.out.trans (hB.mono (by omega)))
      clear HO hT
      go_wp2_with (fail)
      refine bodyPost_ret (v := .slice A' (srcI x t x.hb.length).length c') (by simp [results, Try.results35, go_sem]) rfl ⟨A', c', rfl, HT.out, HBF.out, hcap, HOL.out⟩
end Go.Proofs.Ytijgfdncocjncaa
