/- The document's enough. -/
import Derived.Test.YtijgfdncocjncaaD9
namespace Go.Proofs.Ytijgfdncocjncaa
set_option linter.unusedVariables false
set_option linter.unusedSimpArgs false
open Go Go.RowKit

def anyA (x : Wat) (t i : Nat) (l : List Nat) (k : Nat) : Bool := (l.take k).any fun f => expB x f t i
theorem anyA_succ {x : Wat} {t i k : Nat} {l : List Nat} (h : k < l.length) : anyA x t i l (k + 1) = (anyA x t i l k || expB x l[k] t i) := by
  unfold anyA
  rw [List.take_succ_eq_append_getElem h, List.any_append]
  simp
def enP (x : Wat) (t : Nat) (l : List Nat) (i : Nat) : Bool := !((x.sp i == (t : Int)) && needB x i) || l.any fun f => expB x f t i
theorem enB_yes {x : Wat} {t : Nat} {l : List Nat} (h : ∀ i, i < x.er.length → enP x t l i = true) : enB x t l = true := List.all_eq_true.2 fun i hi => h i (List.mem_range.1 hi)
theorem enB_no {x : Wat} {t : Nat} {l : List Nat} {i : Nat} (hi : i < x.er.length) (h : enP x t l i = false) : enB x t l = false := by
  cases h2 : enB x t l with
  | false => rfl
  | true =>
    have := List.all_eq_true.1 h2 i (List.mem_range.2 hi)
    unfold enP at h
    rw [h] at this
    cases this
theorem enP_any {x : Wat} {t : Nat} {l : List Nat} {i : Nat} (h1 : x.sp i = (t : Int)) (h2 : needB x i = true) : enP x t l i = anyA x t i l l.length := by
  unfold enP anyA
  rw [h1, h2, List.take_length]
  simp
theorem enP_skip {x : Wat} {t : Nat} {l : List Nat} {i : Nat} (h : x.sp i ≠ (t : Int) ∨ needB x i = false) : enP x t l i = true := by
  unfold enP
  rcases h with h | h
  · simp [h]
  · simp [h]
theorem all_succ {p : Nat → Bool} {i : Nat} (h : ∀ j, j < i → p j = true) (h2 : p i = true) : ∀ j, j < i + 1 → p j = true := fun j hj => by
  by_cases e : j < i
  · exact h j e
  · obtain rfl : j = i := by omega
    exact h2
set_option maxRecDepth 100000 in
set_option maxHeartbeats 8000000 in
theorem enough43 (x : Wat) (A B : Option Addr) (c d : Nat) (t : Nat) (S : Option Addr) (cs : Nat) (l : List Nat) (w : World) (hx : WatOk x) (hW : WatAt w x A B) (ht : t < x.hb.length) (hl : l.length ≤ 64) (hS : Ints w w.heap.size S (l.map fun i : Nat => (i : Int))) :
    Calls Try.prog 43 #[x.val A c B d, I t, .slice S l.length cs] w fun e w' => e = .returned (.bool (enB x t l)) ∧ Below w.heap.size w w' := by
  have hm64 : x.er.length ≤ 64 := hx.m64
  have HWA : Hid (∀ W, Below w.heap.size w W → WatAt W x A B) := Lib.hid fun W h => hW.below h
  have HER : Hid (∀ k (h : k < x.er.length), x.er[k] = (x.sp k, x.tm k)) := Lib.hid fun k h => er_get x h
  have H36 : Hid (∀ i f, i < x.er.length → ∀ W, Below w.heap.size w W → Calls Try.prog 36 #[x.val A c B d, .agg #[I (f : Nat), I t], I (i : Nat)] W fun e w' => e = .returned (.bool (expB x f t i)) ∧ Below W.heap.size W w') := Lib.hid fun i f hi W h => explains36 x A B c d f t i W hx (hW.below h) hi ht
  have H37 : Hid (∀ i, i < x.er.length → ∀ W, Below w.heap.size w W → Calls Try.prog 37 #[x.val A c B d, I i] W fun e w' => e = .returned (.bool (needB x i)) ∧ Below W.heap.size W w') := Lib.hid fun i hi W h => needs37 x A B c d i W hx (hW.below h) hi
  have HES := Lib.hid fun i k => @anyA_succ x t i k l
  have HYES := Lib.hid (@enB_yes x t l)
  have HNO := Lib.hid fun i => @enB_no x t l i
  have HANY := Lib.hid fun i => @enP_any x t l i
  have HSKIP := Lib.hid fun i => @enP_skip x t l i
  have HSL := Lib.hid hS
  have HB0 : Hid (Below w.heap.size w (w.alloc (.cells #[.slice A x.hb.length c, .slice B x.er.length d, I x.en] 25))) := Lib.hid (by (repeat' (first | assumption | exact Below.refl _ _ | refine Below.drew ?_ | refine below_drewN ?_ _ | refine Below.setCell ?_ (by first | omega | (simp; done) | (simp; omega)) _ | refine Below.alloc ?_ (by first | omega | (simp; done) | (simp; omega)) _ | refine Below.trans ?_ (Below.mono (by assumption) (by first | omega | (simp; done) | (simp; omega))))))
  have HX0 : Hid (Box (w.alloc (.cells #[.slice A x.hb.length c, .slice B x.er.length d, I x.en] 25)) w.heap.size [.slice A x.hb.length c, .slice B x.er.length d, I x.en]) := Lib.hid (Box.new w [.slice A x.hb.length c, .slice B x.er.length d, I x.en] 25)
  have HZ0 : Hid ((w.alloc (.cells #[.slice A x.hb.length c, .slice B x.er.length d, I x.en] 25)).heap.size = w.heap.size + 1) := Lib.hid (by simp)
  generalize enB x t l = eb0 at *
  clear hx hW hS
  unfold Wat.val at H36 H37 ⊢
  obtain ⟨en, hen2⟩ : ∃ en, x.en = en := ⟨_, rfl⟩
  rw [hen2] at H36 H37 HB0 HX0 HZ0 ⊢
  clear hen2
  go_enter Try.func43, Try.ntmps43
  go_wp2_with (fail)
  generalize w.alloc (.cells #[.slice A x.hb.length c, .slice B x.er.length d, I en] 25) = wa at *
  have hza := HZ0.out
  go_loopw [7] (fun s wr => ∃ k : Nat, k ≤ x.er.length ∧ s = I k ∧ Below wa.heap.size wa wr ∧ Hid (∀ j, j < k → enP x t l j = true)) (fun s _ => x.er.length - (intOf s).toNat)
  case atStart => exact ⟨0, by omega, rfl, Below.refl _ _, Lib.hid fun j h => by omega⟩
  case round =>
    obtain ⟨i, hi, rfl, hB, HA⟩ := hrel
    have hzr := hB.size
    have hbw := HB0.out.trans (hB.mono (by omega))
    have hbx := HX0.out.call hB
    obtain ⟨c0, _⟩ := hbx.at_ 0 _ rfl
    obtain ⟨c1, _⟩ := hbx.at_ 1 _ rfl
    obtain ⟨c2, _⟩ := hbx.at_ 2 _ rfl
    by_cases hlt : i < x.er.length
    · obtain ⟨eb, eo, rfl, hez, hec⟩ := (HWA.out _ hbw).er (by omega)
      obtain ⟨e0, _⟩ := hec i hlt
      rw [HER.out i hlt] at e0
      dsimp only at e0
      have H37i := Lib.hid (H37.out i hlt)
      have p0 : (0 : Int) ≤ (i : Int) := by omega
      have p1 : (i : Int) < (x.er.length : Int) := by omega
      clear hec
      by_cases hst : x.sp i = (t : Int)
      · rw [hst] at e0
        obtain ⟨nb, hnb⟩ : ∃ nb, needB x i = nb := ⟨_, rfl⟩
        rw [hnb] at H37i
        cases nb
        · have HP := Lib.hid (HSKIP.out i (.inr hnb))
          go_wp2_with (first
            | (go_at_call 37; refine (H37i.out _ hbw).mono ?_; rintro e w5 ⟨rfl, hB5⟩)
            | fail)
          go_roundw
          case rel => first | exact ⟨i + 1, by omega, by go_num, hB.trans (hB5.mono hzr), Lib.hid (all_succ HA.out HP.out)⟩ | ((repeat apply Exists.intro); refine ⟨?_, rfl⟩; exact ⟨i + 1, by omega, by go_num, hB.trans (hB5.mono hzr), Lib.hid (all_succ HA.out HP.out)⟩)
          case measure => first | (simp [intOf]; done) | (simp [intOf]; omega)
        · have HPA := Lib.hid (HANY.out i hst hnb)
          have H36q := Lib.hid fun f => H36.out i f hlt
          have HESq := Lib.hid fun k => HES.out i k
          go_wp2_with (first
            | (go_at_call 37; refine (H37i.out _ hbw).mono ?_; rintro e w3 ⟨rfl, hB3⟩)
            | fail)
          have hz3 := hB3.size
          have HB3 : Hid (Below wa.heap.size wa w3) := Lib.hid (hB.trans (hB3.mono hzr))
          have HE0 : Hid (anyA x t i l 0 = false) := Lib.hid rfl
          clear hB3 c0 c1 c2 e0 hbx H37i H37 H36
          go_loopw [8, 9] (fun s8 s9 wi => ∃ k : Nat, k ≤ l.length ∧ s9 = I k ∧ s8 = .bool (anyA x t i l k) ∧ Below w3.heap.size w3 wi) (fun _ s _ => l.length - (intOf s).toNat)
          case atStart => exact ⟨0, by omega, rfl, by rw [HE0.out], Below.refl _ _⟩
          case round =>
            obtain ⟨k, hk, rfl, rfl, hBk⟩ := hrel
            have hzk := hBk.size
            have hB1k := HB3.out.trans (hBk.mono (by omega))
            have hBkw := HB0.out.trans (hB1k.mono (by omega))
            have hzkw : w.heap.size ≤ wr.heap.size := hBkw.size
            by_cases hlk : k < l.length
            · have hlk2 := hlk
              obtain ⟨sb, so, rfl, hsz, hsc⟩ := HSL.out (by rw [List.length_map]; omega)
              have hsk := hsc k (by rw [List.length_map]; exact hlk2)
              rw [List.getElem_map] at hsk
              have HEk := Lib.hid (HESq.out k hlk2)
              have H36k := Lib.hid (H36q.out l[k])
              have r0 : (0 : Int) ≤ (k : Int) := by omega
              have r1 : (k : Int) < (l.length : Int) := by omega
              generalize l[k] = fk at *
              have HCK : Hid (∀ W, Below wr.heap.size wr W → W.cell? ⟨w.heap.size, 0, none⟩ = some (.slice A x.hb.length c) ∧ W.cell? ⟨w.heap.size, 1, none⟩ = some (.slice (some ⟨eb, eo, none⟩) x.er.length d) ∧ W.cell? ⟨w.heap.size, 2, none⟩ = some (I en) ∧ W.cell? ⟨sb, so + k, none⟩ = some (I fk)) := Lib.hid fun W hW => by
                have hx := HX0.out.call (hB1k.trans (hW.mono hB1k.size))
                exact ⟨(hx.at_ 0 _ rfl).1, (hx.at_ 1 _ rfl).1, (hx.at_ 2 _ rfl).1, ((hBkw.trans (hW.mono hzkw)).cell (p := ⟨sb, _, none⟩) hsz).trans hsk⟩
              generalize expB x fk t i = r at *
              obtain ⟨fo, hfo⟩ : ∃ fo, anyA x t i l k = fo := ⟨_, rfl⟩
              rw [hfo] at HEk ⊢
              clear hfo hsc hsk
              cases fo
              · have HEF : Hid (anyA x t i l (k + 1) = r) := Lib.hid (by rw [HEk.out, Bool.false_or])
                go_wp2_with (fail)
                obtain ⟨x0_, x1_, x2_, s0_⟩ := HCK.out wr (Below.refl _ _)
                refine (wpIn_wide (n := 9)).1 ?_
                refine wpIn_region_text [0, 1, 2, 3, 4, 5, 6, 7, 8, 9, 10, 11, 12] rfl (by kernel_rfl) (by kernel_rfl) (fun _ d _ _ _ h => by cases d <;> exact h) ?_
                iterate 10 (refine ordT_li rfl rfl (fun K hK => ?_); go_simp; refine hK _ ?_; clear hK K)
                refine ordT_hvg rfl rfl (by go_simp) (fun K hK => ?_)
                gi_wp2_with (first | (refine And.intro trivial ?_; gi_at_call 36; refine (callsIn_wide.2 (H36k.out _ hBkw.drew)).mono ?_; rintro e w6 ⟨rfl, hB6⟩) | fail)
                have hCo : Below wr.heap.size wr w6 := (Below.refl _ wr).drew.trans hB6
                iterate 2 (refine ordT_li rfl rfl (fun K hK => ?_); go_simp; refine hK _ ?_; clear hK K)
                refine ordT_nil ?_
                · clear x0_ x1_ x2_ s0_
                  go_wp2_with (fail)
                  go_roundw
                  case rel => first | exact ⟨k + 1, by omega, by go_num, by rw [HEF.out], hBk.trans (hCo.mono hzk)⟩ | ((repeat apply Exists.intro); refine ⟨?_, rfl⟩; exact ⟨k + 1, by omega, by go_num, by rw [HEF.out], hBk.trans (hCo.mono hzk)⟩)
                  case measure => first | (simp [intOf]; done) | (simp [intOf]; omega)
              · have HEF : Hid (anyA x t i l (k + 1) = true) := Lib.hid (by rw [HEk.out, Bool.true_or])
                go_wp2_with (fail)
                refine (wpIn_wide (n := 9)).1 ?_
                refine wpIn_region_text [0, 1, 2, 3, 4, 5, 6, 7, 8, 9, 10, 11, 12] rfl (by kernel_rfl) (by kernel_rfl) (fun _ d _ _ _ h => by cases d <;> exact h) ?_
                iterate 10 (refine ordT_li rfl rfl (fun K hK => ?_); go_simp; refine hK _ ?_; clear hK K)
                refine ordT_hvn rfl rfl (by go_simp) (fun _ _ => trivial) ?_
                iterate 2 (refine ordT_li rfl rfl (fun K hK => ?_); go_simp; refine hK _ ?_; clear hK K)
                refine ordT_nil ?_
                · have hCo : Below wr.heap.size wr wr.drew := (Below.refl _ wr).drew
                  go_wp2_with (fail)
                  go_roundw
                  case rel => first | exact ⟨k + 1, by omega, by go_num, by rw [HEF.out], hBk.trans (hCo.mono hzk)⟩ | ((repeat apply Exists.intro); refine ⟨?_, rfl⟩; exact ⟨k + 1, by omega, by go_num, by rw [HEF.out], hBk.trans (hCo.mono hzk)⟩)
                  case measure => first | (simp [intOf]; done) | (simp [intOf]; omega)
            · obtain rfl : k = l.length := by omega
              obtain ⟨xb, hxb⟩ : ∃ xb, anyA x t i l l.length = xb := ⟨_, rfl⟩
              rw [hxb] at HPA ⊢
              clear hxb HESq HE0 H36q
              cases xb
              · have HR := Lib.hid (HNO.out i hlt HPA.out)
                go_wp2_with (fail)
                exact bodyPost_ret (v := .bool false) (by simp [results, Try.results43, go_sem]) rfl ⟨by rw [HR.out], hBkw⟩
              · go_wp2_with (fail)
                go_roundw
                case rel => first | exact ⟨i + 1, by omega, by go_num, hB1k, Lib.hid (all_succ HA.out HPA.out)⟩ | ((repeat apply Exists.intro); refine ⟨?_, rfl⟩; exact ⟨i + 1, by omega, by go_num, hB1k, Lib.hid (all_succ HA.out HPA.out)⟩)
                case measure => first | (simp [intOf]; done) | (simp [intOf]; omega)
      · have HP := Lib.hid (HSKIP.out i (.inl hst))
        go_wp2_with (fail)
        go_roundw
        case rel => first | exact ⟨i + 1, by omega, by go_num, hB, Lib.hid (all_succ HA.out HP.out)⟩ | ((repeat apply Exists.intro); refine ⟨?_, rfl⟩; exact ⟨i + 1, by omega, by go_num, hB, Lib.hid (all_succ HA.out HP.out)⟩)
        case measure => first | (simp [intOf]; done) | (simp [intOf]; omega)
    · have HR := Lib.hid (HYES.out fun j h => HA.out j (by omega))
      go_wp2_with (fail)
      exact bodyPost_ret (v := .bool true) (by simp [results, Try.results43, go_sem]) rfl ⟨by rw [HR.out], hbw⟩
end Go.Proofs.Ytijgfdncocjncaa
