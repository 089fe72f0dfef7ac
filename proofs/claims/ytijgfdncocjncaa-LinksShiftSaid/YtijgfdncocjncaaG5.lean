/- The laws' holds: eruption by eruption. -/
import Derived.Test.YtijgfdncocjncaaD11
namespace Go.Proofs.Ytijgfdncocjncaa
set_option linter.unusedVariables false
set_option linter.unusedSimpArgs false
open Go Go.RowKit

theorem inB_le {z lo hi : Int} : inB z lo hi = (decide (lo ≤ z) && decide (z ≤ hi)) := by
  unfold inB
  by_cases h1 : lo ≤ z <;> by_cases h2 : z ≤ hi <;> simp [h1, h2]
theorem folB_at {x : Wat} {f t k i : Nat} (h : x.sp i = (f : Int)) : folB x f t k i = ((x.sp k == (t : Int)) && (decide (x.tm i + x.dl t ≤ x.tm k) && decide (x.tm k ≤ x.tm i + x.dh t))) := by
  unfold folB
  rw [h, inB_le]
  have e1 : decide (x.dl t ≤ x.tm k - x.tm i) = decide (x.tm i + x.dl t ≤ x.tm k) := decide_eq_decide.2 (by omega)
  have e2 : decide (x.tm k - x.tm i ≤ x.dh t) = decide (x.tm k ≤ x.tm i + x.dh t) := decide_eq_decide.2 (by omega)
  rw [e1, e2]
  simp
set_option maxRecDepth 100000 in
set_option maxHeartbeats 8000000 in
theorem holds25 (x : Wat) (A B : Option Addr) (c d : Nat) (f t : Nat) (w : World) (hx : WatOk x) (hW : WatAt w x A B) (ht : t < x.hb.length) :
    Calls Try.prog 25 #[x.val A c B d, .agg #[I f, I t]] w fun e w' => e = .returned (.bool (ref x f t).isNone) ∧ Below w.heap.size w w' := by
  have hm64 : x.er.length ≤ 64 := hx.m64
  have hn6 : x.hb.length ≤ 6 := hx.n6
  obtain ⟨hb_, ho, rfl, hhz, hhc⟩ := hW.hb (by omega)
  obtain ⟨_, _, k2, k3⟩ := hhc t ht
  rw [hb_get x ht] at k2 k3
  dsimp only at k2 k3
  have hdel := (hx.hab t ht).del
  have hen := hx.en
  have HWA : Hid (∀ W, Below w.heap.size w W → WatAt W x (some ⟨hb_, ho, none⟩) B) := Lib.hid fun W h => hW.below h
  have HTM : Hid (∀ k, k < x.er.length → 0 ≤ x.tm k ∧ x.tm k ≤ x.en) := Lib.hid fun k hk => (hx.eru k hk).tm
  have HER : Hid (∀ k (h : k < x.er.length), x.er[k].1 = x.sp k ∧ x.er[k].2 = x.tm k) := Lib.hid fun k h => by rw [er_get x h]; exact ⟨rfl, rfl⟩
  have HRD : Hid (∀ a, refB x f t a = ((x.sp a == (f : Int)) && (decide (x.tm a + x.dh t ≤ x.en) && !folA x f t a x.er.length))) := Lib.hid fun a => refB_def x f t a
  have HRS : Hid (∀ i, i < x.er.length → (∀ j, j < i → refB x f t j = false) → refB x f t i = true → (ref x f t).isNone = false) := Lib.hid fun i h1 h2 h3 => by rw [ref_some h1 h2 h3]; rfl
  have HRN : Hid ((∀ j, j < x.er.length → refB x f t j = false) → (ref x f t).isNone = true) := Lib.hid fun h => by rw [ref_none h]; rfl
  have HFS : Hid (∀ i k, folA x f t i (k + 1) = (folA x f t i k || folB x f t k i)) := Lib.hid fun i k => folA_succ x f t i k
  have HF0 : Hid (∀ i, folA x f t i 0 = false) := Lib.hid fun i => rfl
  have HFA : Hid (∀ i k, x.sp i = (f : Int) → folB x f t k i = ((x.sp k == (t : Int)) && (decide (x.tm i + x.dl t ≤ x.tm k) && decide (x.tm k ≤ x.tm i + x.dh t)))) := Lib.hid fun i k h => folB_at h
  generalize x.dh t = dh at *
  generalize x.dl t = dl at *
  generalize (ref x f t).isNone = rf at *
  clear hhc hx hW
  unfold Wat.val
  obtain ⟨en, hen2⟩ : ∃ en, x.en = en := ⟨_, rfl⟩
  rw [hen2] at hen HTM HRD ⊢
  clear hen2
  have HB0 : Hid (Below w.heap.size w (((w.alloc (.cells #[.slice (some ⟨hb_, ho, none⟩) x.hb.length c, .slice B x.er.length d, I en] 25)).alloc (.cells #[I f, I t] 27)).alloc (.cells #[I dl, I dh] 52))) := Lib.hid (by (repeat' (first | assumption | exact Below.refl _ _ | refine Below.drew ?_ | refine below_drewN ?_ _ | refine Below.setCell ?_ (by first | omega | (simp; done) | (simp; omega)) _ | refine Below.alloc ?_ (by first | omega | (simp; done) | (simp; omega)) _ | refine Below.trans ?_ (Below.mono (by assumption) (by first | omega | (simp; done) | (simp; omega))))))
  have HX0 : Hid (Box (((w.alloc (.cells #[.slice (some ⟨hb_, ho, none⟩) x.hb.length c, .slice B x.er.length d, I en] 25)).alloc (.cells #[I f, I t] 27)).alloc (.cells #[I dl, I dh] 52)) w.heap.size [.slice (some ⟨hb_, ho, none⟩) x.hb.length c, .slice B x.er.length d, I en]) := Lib.hid (((Box.new w [.slice (some ⟨hb_, ho, none⟩) x.hb.length c, .slice B x.er.length d, I en] 25).alloc _).alloc _)
  have HL0 : Hid (Box (((w.alloc (.cells #[.slice (some ⟨hb_, ho, none⟩) x.hb.length c, .slice B x.er.length d, I en] 25)).alloc (.cells #[I f, I t] 27)).alloc (.cells #[I dl, I dh] 52)) (w.heap.size + 1) [I f, I t]) := Lib.hid (by have := (Box.new (w.alloc (.cells #[.slice (some ⟨hb_, ho, none⟩) x.hb.length c, .slice B x.er.length d, I en] 25)) [I f, I t] 27).alloc (.cells #[I dl, I dh] 52); simpa only [World.size_alloc] using this)
  have HD0 : Hid (Box (((w.alloc (.cells #[.slice (some ⟨hb_, ho, none⟩) x.hb.length c, .slice B x.er.length d, I en] 25)).alloc (.cells #[I f, I t] 27)).alloc (.cells #[I dl, I dh] 52)) (w.heap.size + 2) [I dl, I dh]) := Lib.hid (by have := Box.new ((w.alloc (.cells #[.slice (some ⟨hb_, ho, none⟩) x.hb.length c, .slice B x.er.length d, I en] 25)).alloc (.cells #[I f, I t] 27)) [I dl, I dh] 52; simpa only [World.size_alloc] using this)
  have HZ0 : Hid ((((w.alloc (.cells #[.slice (some ⟨hb_, ho, none⟩) x.hb.length c, .slice B x.er.length d, I en] 25)).alloc (.cells #[I f, I t] 27)).alloc (.cells #[I dl, I dh] 52)).heap.size = w.heap.size + 3) := Lib.hid (by simp)
  have t0 : (0 : Int) ≤ (t : Int) := by omega
  have t1 : (t : Int) < (x.hb.length : Int) := by omega
  go_enter Try.func25, Try.ntmps25
  go_wp2_with (fail)
  generalize ((w.alloc (.cells #[.slice (some ⟨hb_, ho, none⟩) x.hb.length c, .slice B x.er.length d, I en] 25)).alloc (.cells #[I f, I t] 27)).alloc (.cells #[I dl, I dh] 52) = wa at *
  have hza := HZ0.out
  have HCE : Hid (∀ W, Below wa.heap.size wa W → Below w.heap.size w W ∧ Box W w.heap.size [.slice (some ⟨hb_, ho, none⟩) x.hb.length c, .slice B x.er.length d, I en] ∧ Box W (w.heap.size + 1) [I f, I t] ∧ Box W (w.heap.size + 2) [I dl, I dh]) := Lib.hid fun W hB => ⟨HB0.out.trans (hB.mono (by omega)), HX0.out.call hB, HL0.out.call hB, HD0.out.call hB⟩
  clear k3 k2
  go_loopw [6] (fun s wr => ∃ i : Nat, i ≤ x.er.length ∧ s = I i ∧ Below wa.heap.size wa wr ∧ Hid (∀ j, j < i → refB x f t j = false)) (fun s _ => x.er.length - (intOf s).toNat)
  case atStart => exact ⟨0, by omega, rfl, Below.refl _ _, Lib.hid fun j h => by omega⟩
  case round =>
    obtain ⟨i, hi, rfl, hB, HA⟩ := hrel
    have hzr := hB.size
    obtain ⟨hbw, hbx, hbl, hbd⟩ := HCE.out _ hB
    obtain ⟨c1, _⟩ := hbx.at_ 1 _ rfl
    obtain ⟨c2, _⟩ := hbx.at_ 2 _ rfl
    obtain ⟨l0, _⟩ := hbl.at_ 0 _ rfl
    obtain ⟨n1, _⟩ := hbd.at_ 1 _ rfl
    have hX1 : w.heap.size + 2 < wr.heap.size := by omega
    have hX2 : w.heap.size + 1 < wr.heap.size := by omega
    have hX3 : w.heap.size < wr.heap.size := by omega
    by_cases hlt : i < x.er.length
    · obtain ⟨eb, eo, rfl, hez, hec⟩ := (HWA.out _ hbw).er (by omega)
      obtain ⟨e0, e1⟩ := hec i hlt
      rw [(HER.out i hlt).1] at e0
      rw [(HER.out i hlt).2] at e1
      have hti := HTM.out i hlt
      have HRDi := Lib.hid (HRD.out i)
      have HRSi := Lib.hid (HRS.out i hlt HA.out)
      have HFAi := Lib.hid fun k => HFA.out i k
      have HAS := Lib.hid fun h => lt_snoc (p := fun j => refB x f t j = false) HA.out h
      have p0 : (0 : Int) ≤ (i : Int) := by omega
      have p1 : (i : Int) < (x.er.length : Int) := by omega
      generalize x.sp i = spi at *
      generalize x.tm i = tmi at *
      have hwv : IntKind.i64.wrap (tmi + dh) = tmi + dh := IntWalk.i64_in _ (by omega)
      have hwl : IntKind.i64.wrap (tmi + dl) = tmi + dl := IntWalk.i64_in _ (by omega)
      have HB5 : Hid (Below wa.heap.size wa (wr.alloc (.cells #[I spi, I tmi] 50))) := Lib.hid (hB.alloc hzr _)
      have HE5 : Hid (Box (wr.alloc (.cells #[I spi, I tmi] 50)) wr.heap.size [I spi, I tmi]) := Lib.hid (Box.new wr [I spi, I tmi] 50)
      have HZ5 : Hid ((wr.alloc (.cells #[I spi, I tmi] 50)).heap.size = wr.heap.size + 1) := Lib.hid (by simp)
      clear hec HA
      cases ee1 : (spi == (f : Int))
      · rw [ee1] at HRDi
        have en1 : (spi != (f : Int)) = true := by rw [show (spi != (f : Int)) = !(spi == (f : Int)) from rfl, ee1]; rfl
        have HS := Lib.hid (HAS.out (by rw [HRDi.out]; rfl))
        go_wp2_with (fail)
        go_roundw
        case rel => first | exact ⟨i + 1, by omega, by go_num, HB5.out, HS⟩ | ((repeat apply Exists.intro); refine ⟨?_, rfl⟩; exact ⟨i + 1, by omega, by go_num, HB5.out, HS⟩)
        case measure => first | (simp [intOf]; done) | (simp [intOf]; omega)
      · rw [ee1] at HRDi
        have HSF : Hid (spi = (f : Int)) := Lib.hid (by simpa using ee1)
        have en1 : (spi != (f : Int)) = false := by rw [show (spi != (f : Int)) = !(spi == (f : Int)) from rfl, ee1]; rfl
        cases ee2 : decide (tmi + dh ≤ en)
        · rw [ee2] at HRDi
          have en2 : decide (en < tmi + dh) = true := by
            have := of_decide_eq_false ee2
            exact decide_eq_true (by omega)
          have HS := Lib.hid (HAS.out (by rw [HRDi.out]; rfl))
          go_wp2_with (fail)
          go_roundw
          case rel => first | exact ⟨i + 1, by omega, by go_num, HB5.out, HS⟩ | ((repeat apply Exists.intro); refine ⟨?_, rfl⟩; exact ⟨i + 1, by omega, by go_num, HB5.out, HS⟩)
          case measure => first | (simp [intOf]; done) | (simp [intOf]; omega)
        · rw [ee2] at HRDi
          have en2 : decide (en < tmi + dh) = false := by
            have := of_decide_eq_true ee2
            exact decide_eq_false (by omega)
          go_wp2_with (fail)
          clear e0 e1 c1 c2 l0 n1 hbx hbl hbd
          generalize wr.alloc (.cells #[I spi, I tmi] 50) = w5 at *
          obtain ⟨wb, hwb⟩ : ∃ wb, wr = wb := ⟨_, rfl⟩
          rw [hwb] at HE5 HZ5 hB hzr hX1 ⊢
          clear hwb
          have hz5 := HZ5.out
          have HCI : Hid (∀ W, Below w5.heap.size w5 W → Below w.heap.size w W ∧ Box W w.heap.size [.slice (some ⟨hb_, ho, none⟩) x.hb.length c, .slice (some ⟨eb, eo, none⟩) x.er.length d, I en] ∧ Box W (w.heap.size + 1) [I f, I t] ∧ Box W (w.heap.size + 2) [I dl, I dh] ∧ Box W wb.heap.size [I spi, I tmi]) := Lib.hid fun W hW => by
            obtain ⟨q0, q1, q2, q3⟩ := HCE.out W (HB5.out.trans (hW.mono (by omega)))
            exact ⟨q0, q1, q2, q3, HE5.out.call hW⟩
          go_loopw [8, 9] (fun s8 s9 wi => ∃ k : Nat, k ≤ x.er.length ∧ s9 = I k ∧ s8 = .bool (folA x f t i k) ∧ Below w5.heap.size w5 wi) (fun _ s _ => x.er.length - (intOf s).toNat)
          case atStart => exact ⟨0, by omega, rfl, by rw [HF0.out], Below.refl _ _⟩
          case round =>
            obtain ⟨k, hk, rfl, rfl, hBi⟩ := hrel
            have hzi := hBi.size
            obtain ⟨hbwi, hbxi, hbli, hbdi, hbei⟩ := HCI.out _ hBi
            obtain ⟨c1, _⟩ := hbxi.at_ 1 _ rfl
            obtain ⟨l1, _⟩ := hbli.at_ 1 _ rfl
            obtain ⟨n0, _⟩ := hbdi.at_ 0 _ rfl
            obtain ⟨n1, _⟩ := hbdi.at_ 1 _ rfl
            obtain ⟨m1, _⟩ := hbei.at_ 1 _ rfl
            have hY0 : w.heap.size < wr.heap.size := by omega
            have hY1 : w.heap.size + 1 < wr.heap.size := by omega
            have hY2 : w.heap.size + 2 < wr.heap.size := by omega
            have hY3 : wb.heap.size < wr.heap.size := by omega
            by_cases hlk : k < x.er.length
            · obtain ⟨eb', eo', heq, hez', hec'⟩ := (HWA.out _ hbwi).er (by omega)
              cases heq
              obtain ⟨e0, e1⟩ := hec' k hlk
              rw [(HER.out k hlk).1] at e0
              rw [(HER.out k hlk).2] at e1
              have htk := HTM.out k hlk
              have HFk := Lib.hid (HFS.out i k)
              rw [HFAi.out k HSF.out] at HFk
              have q0 : (0 : Int) ≤ (k : Int) := by omega
              have q1 : (k : Int) < (x.er.length : Int) := by omega
              generalize x.sp k = spk at *
              generalize x.tm k = tmk at *
              have HB6 : Hid (Below w5.heap.size w5 (wr.alloc (.cells #[I spk, I tmk] 50))) := Lib.hid (hBi.alloc hzi _)
              obtain ⟨fo, hfo⟩ : ∃ fo, folA x f t i k = fo := ⟨_, rfl⟩
              rw [hfo] at HFk ⊢
              clear hfo hec' hbxi hbli hbdi hbei
              cases fo
              · cases g1 : (spk == (t : Int))
                · rw [g1] at HFk
                  have HFF : Hid (folA x f t i (k + 1) = false) := Lib.hid (by rw [HFk.out]; rfl)
                  go_wp2_with (fail)
                  go_roundw
                  case rel => first | exact ⟨k + 1, by omega, by go_num, by rw [HFF.out], HB6.out⟩ | ((repeat apply Exists.intro); refine ⟨?_, rfl⟩; exact ⟨k + 1, by omega, by go_num, by rw [HFF.out], HB6.out⟩)
                  case measure => first | (simp [intOf]; done) | (simp [intOf]; omega)
                · rw [g1] at HFk
                  cases g2 : decide (tmi + dl ≤ tmk)
                  · rw [g2] at HFk
                    have HFF : Hid (folA x f t i (k + 1) = false) := Lib.hid (by rw [HFk.out]; rfl)
                    go_wp2_with (fail)
                    go_roundw
                    case rel => first | exact ⟨k + 1, by omega, by go_num, by rw [HFF.out], HB6.out⟩ | ((repeat apply Exists.intro); refine ⟨?_, rfl⟩; exact ⟨k + 1, by omega, by go_num, by rw [HFF.out], HB6.out⟩)
                    case measure => first | (simp [intOf]; done) | (simp [intOf]; omega)
                  · rw [g2] at HFk
                    cases g3 : decide (tmk ≤ tmi + dh)
                    · rw [g3] at HFk
                      have HFF : Hid (folA x f t i (k + 1) = false) := Lib.hid (by rw [HFk.out]; rfl)
                      go_wp2_with (fail)
                      go_roundw
                      case rel => first | exact ⟨k + 1, by omega, by go_num, by rw [HFF.out], HB6.out⟩ | ((repeat apply Exists.intro); refine ⟨?_, rfl⟩; exact ⟨k + 1, by omega, by go_num, by rw [HFF.out], HB6.out⟩)
                      case measure => first | (simp [intOf]; done) | (simp [intOf]; omega)
                    · rw [g3] at HFk
                      have HFF : Hid (folA x f t i (k + 1) = true) := Lib.hid (by rw [HFk.out]; rfl)
                      go_wp2_with (fail)
                      go_roundw
                      case rel => first | exact ⟨k + 1, by omega, by go_num, by rw [HFF.out], HB6.out⟩ | ((repeat apply Exists.intro); refine ⟨?_, rfl⟩; exact ⟨k + 1, by omega, by go_num, by rw [HFF.out], HB6.out⟩)
                      case measure => first | (simp [intOf]; done) | (simp [intOf]; omega)
              · have HFF : Hid (folA x f t i (k + 1) = true) := Lib.hid (by rw [HFk.out, Bool.true_or])
                go_wp2_with (fail)
                go_roundw
                case rel => first | exact ⟨k + 1, by omega, by go_num, by rw [HFF.out], HB6.out⟩ | ((repeat apply Exists.intro); refine ⟨?_, rfl⟩; exact ⟨k + 1, by omega, by go_num, by rw [HFF.out], HB6.out⟩)
                case measure => first | (simp [intOf]; done) | (simp [intOf]; omega)
            · obtain rfl : k = x.er.length := by omega
              obtain ⟨fo, hfo⟩ : ∃ fo, folA x f t i x.er.length = fo := ⟨_, rfl⟩
              rw [hfo] at HRDi ⊢
              clear hfo
              have HB6 : Hid (Below wa.heap.size wa wr) := Lib.hid (HB5.out.trans (hBi.mono (by omega)))
              cases fo
              · have HR := Lib.hid (HRSi.out (by rw [HRDi.out]; rfl))
                go_wp2_with (fail)
                exact bodyPost_ret (v := .bool false) (by simp [results, Try.results25, go_sem]) rfl ⟨by rw [HR.out], hbwi⟩
              · have HS := Lib.hid (HAS.out (by rw [HRDi.out]; rfl))
                go_wp2_with (fail)
                go_roundw
                case rel => first | exact ⟨i + 1, by omega, by go_num, HB6.out, HS⟩ | ((repeat apply Exists.intro); refine ⟨?_, rfl⟩; exact ⟨i + 1, by omega, by go_num, HB6.out, HS⟩)
                case measure => first | (simp [intOf]; done) | (simp [intOf]; omega)
    · have HR := Lib.hid (HRN.out fun j h => HA.out j (by omega))
      go_wp2_with (fail)
      exact bodyPost_ret (v := .bool true) (by simp [results, Try.results25, go_sem]) rfl ⟨by rw [HR.out], hbw⟩
end Go.Proofs.Ytijgfdncocjncaa
