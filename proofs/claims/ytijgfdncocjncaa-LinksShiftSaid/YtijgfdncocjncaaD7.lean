/- The document's Watch. -/
import Derived.Test.YtijgfdncocjncaaD6
namespace Go.Proofs.Ytijgfdncocjncaa
set_option linter.unusedVariables false
set_option linter.unusedSimpArgs false
open Go Go.RowKit

set_option maxRecDepth 100000 in
set_option maxHeartbeats 16000000 in
theorem watch20 (x : Wat) (A B : Option Addr) (c d : Nat) (w : World) (h64 : Wat64 x) (hW : WatAt w x A B) :
    Calls Try.prog 20 #[x.val A c B d] w fun e w' => e = .returned (.bool (watB x)) ∧ Below w.heap.size w w' := by
  have hhl := h64.hlen
  have hel := h64.elen
  have HWA : Hid (∀ W, Below w.heap.size w W → WatAt W x A B) := Lib.hid fun W h => hW.below h
  have H44 := Lib.hid in44
  have HNO : Hid (¬ WatOk x → watB x = false) := Lib.hid fun h => bool_false fun h2 => h (watB_iff.1 h2)
  have HYES : Hid (WatOk x → watB x = true) := Lib.hid fun h => watB_iff.2 h
  have HHB : Hid (∀ k (h : k < x.hb.length), x.hb[k] = (x.ol k, x.oh k, x.dl k, x.dh k)) := Lib.hid fun k h => hb_get x h
  have HER : Hid (∀ k (h : k < x.er.length), x.er[k] = (x.sp k, x.tm k)) := Lib.hid fun k h => er_get x h
  have HB0 : Hid (Below w.heap.size w (w.alloc (.cells #[.slice A x.hb.length c, .slice B x.er.length d, I x.en] 25))) := Lib.hid (by (repeat' (first | assumption | exact Below.refl _ _ | refine Below.drew ?_ | refine below_drewN ?_ _ | refine Below.setCell ?_ (by first | omega | (simp; done) | (simp; omega)) _ | refine Below.alloc ?_ (by first | omega | (simp; done) | (simp; omega)) _ | refine Below.trans ?_ (Below.mono (by assumption) (by first | omega | (simp; done) | (simp; omega))))))
  have HX0 : Hid (Box (w.alloc (.cells #[.slice A x.hb.length c, .slice B x.er.length d, I x.en] 25)) w.heap.size [.slice A x.hb.length c, .slice B x.er.length d, I x.en]) := Lib.hid (Box.new w [.slice A x.hb.length c, .slice B x.er.length d, I x.en] 25)
  have HZ0 : Hid ((w.alloc (.cells #[.slice A x.hb.length c, .slice B x.er.length d, I x.en] 25)).heap.size = w.heap.size + 1) := Lib.hid (by simp)
  obtain ⟨wb, hwb⟩ : ∃ wb, watB x = wb := ⟨_, rfl⟩
  rw [hwb] at HNO HYES ⊢
  clear h64 hW hwb
  unfold Wat.val
  by_cases hn : 6 < x.hb.length
  · have HR := Lib.hid (HNO.out fun h => by have h1 : x.hb.length ≤ 6 := h.n6; omega)
    have hnb : decide ((6 : Int) < (x.hb.length : Int)) = true := decide_eq_true (by omega)
    go_enter Try.func20, Try.ntmps20
    go_wp2_with (fail)
    refine bodyPost_ret (v := .bool false) (by simp [results, Try.results20, go_sem]) rfl ⟨by rw [HR.out], HB0.out⟩
  have hnb : decide ((6 : Int) < (x.hb.length : Int)) = false := decide_eq_false (by omega)
  by_cases hm : 64 < x.er.length
  · have HR := Lib.hid (HNO.out fun h => by have h1 : x.er.length ≤ 64 := h.m64; omega)
    have hmb : decide ((64 : Int) < (x.er.length : Int)) = true := decide_eq_true (by omega)
    go_enter Try.func20, Try.ntmps20
    go_wp2_with (fail)
    refine bodyPost_ret (v := .bool false) (by simp [results, Try.results20, go_sem]) rfl ⟨by rw [HR.out], HB0.out⟩
  have hmb : decide ((64 : Int) < (x.er.length : Int)) = false := decide_eq_false (by omega)
  cases hie : inB x.en 0 1048576
  · have HR := Lib.hid (HNO.out fun h => by
      have h1 := inB_true.2 h.en
      rw [hie] at h1; cases h1)
    have H44e : Hid (∀ W, Calls Try.prog 44 #[I x.en, I 0, I 1048576] W fun e w' => e = .returned (.bool false) ∧ W = w') := Lib.hid fun W => by have h := H44.out x.en 0 1048576 W; rwa [hie] at h
    go_enter Try.func20, Try.ntmps20
    go_wp2_with (first | (go_at_call 44; refine (H44e.out _).mono ?_; rintro e w2 ⟨rfl, rfl⟩) | fail)
    refine bodyPost_ret (v := .bool false) (by simp [results, Try.results20, go_sem]) rfl ⟨by rw [HR.out], HB0.out⟩
  have H44e : Hid (∀ W, Calls Try.prog 44 #[I x.en, I 0, I 1048576] W fun e w' => e = .returned (.bool true) ∧ W = w') := Lib.hid fun W => by have h := H44.out x.en 0 1048576 W; rwa [hie] at h
  have HEN : Hid (0 ≤ x.en ∧ x.en ≤ 1048576) := Lib.hid (inB_true.1 hie)
  have hen := HEN.out
  obtain ⟨en, hen2⟩ : ∃ en, x.en = en := ⟨_, rfl⟩
  rw [hen2] at H44e HB0 HX0 HZ0 hen ⊢
  have HEQ := Lib.hid hen2
  clear hie hen2
  go_enter Try.func20, Try.ntmps20
  go_wp2_with (first | (go_at_call 44; refine (H44e.out _).mono ?_; rintro e w2 ⟨rfl, rfl⟩) | fail)
  generalize w.alloc (.cells #[.slice A x.hb.length c, .slice B x.er.length d, I en] 25) = wa at *
  have hza := HZ0.out
  have HCE : Hid (∀ W, Below wa.heap.size wa W → Below w.heap.size w W ∧ Box W w.heap.size [.slice A x.hb.length c, .slice B x.er.length d, I en]) := Lib.hid fun W hB => ⟨HB0.out.trans (hB.mono (by omega)), HX0.out.call hB⟩
  go_loopw [3] (fun s3 wr => ∃ k : Nat, k ≤ x.hb.length ∧ s3 = I k ∧ Below wa.heap.size wa wr ∧ Hid (∀ j, j < k → HabOk x j)) (fun s _ => x.hb.length - (intOf s).toNat)
  case atStart => exact ⟨0, by omega, rfl, Below.refl _ _, Lib.hid fun j h => by omega⟩
  case round =>
    obtain ⟨k, hk, rfl, hB, HA⟩ := hrel
    have hzr := hB.size
    obtain ⟨hbw, hbx⟩ := HCE.out _ hB
    obtain ⟨c0, _⟩ := hbx.at_ 0 _ rfl
    by_cases hlt : k < x.hb.length
    · obtain ⟨hb_, ho, rfl, hhz, hhc⟩ := (HWA.out _ hbw).hb (by omega)
      obtain ⟨a0, a1, a2, a3⟩ := hhc k hlt
      rw [HHB.out k hlt] at a0 a1 a2 a3
      dsimp only at a0 a1 a2 a3
      have HNk : Hid (¬ HabOk x k → wb = false) := Lib.hid fun h => HNO.out fun h2 => h (h2.hab k hlt)
      have HOK : Hid (HabOk x k ↔ ((x.ol k ≤ x.oh k → 0 ≤ x.ol k ∧ x.oh k ≤ 1048576) ∧ (0 ≤ x.dl k ∧ x.dl k ≤ x.dh k ∧ x.dh k ≤ 1048576))) := Lib.hid ⟨fun h => ⟨h.own, h.del⟩, fun h => ⟨h.1, h.2⟩⟩
      have HS : Hid (HabOk x k → ∀ j, j < k + 1 → HabOk x j) := Lib.hid fun h => lt_snoc HA.out h
      have p0 : (0 : Int) ≤ (k : Int) := by omega
      have p1 : (k : Int) < (x.hb.length : Int) := by omega
      generalize x.ol k = ol at *
      generalize x.oh k = oh at *
      generalize x.dl k = dl at *
      generalize x.dh k = dh at *
      have HB5 : Hid (Below wa.heap.size wa (wr.alloc (.cells #[I ol, I oh, I dl, I dh] 54))) := Lib.hid (hB.alloc hzr _)
      have HBw : Hid (Below w.heap.size w (wr.alloc (.cells #[I ol, I oh, I dl, I dh] 54))) := Lib.hid (HCE.out _ HB5.out).1
      have HE5 : Hid (Box (wr.alloc (.cells #[I ol, I oh, I dl, I dh] 54)) wr.heap.size [I ol, I oh, I dl, I dh]) := Lib.hid (Box.new wr [I ol, I oh, I dl, I dh] 54)
      clear hhc HA
      go_wp2_with (fail)
      all_goals first
        | (have hbad : ¬ HabOk x k := (fun h => by
             have h1 := (HOK.out.1 h).1
             have h2 := (HOK.out.1 h).2
             by_cases hh : ol ≤ oh
             · have h3 := h1 hh
               omega
             · omega)
           refine bodyPost_ret (v := .bool false) (by simp [results, Try.results20, go_sem]) rfl ⟨by rw [HNk.out hbad], HBw.out⟩)
        | (have hgood : HabOk x k := HOK.out.2 ⟨fun hh => (by omega), by omega⟩
           have HS5 := Lib.hid (HS.out hgood)
           go_roundw
           case rel => first | exact ⟨k + 1, by omega, by go_num, HB5.out, HS5⟩ | ((repeat apply Exists.intro); refine ⟨?_, rfl⟩; exact ⟨k + 1, by omega, by go_num, HB5.out, HS5⟩)
           case measure => first | (simp [intOf]; done) | (simp [intOf]; omega))
    · have HHA : Hid (∀ j, j < x.n → HabOk x j) := Lib.hid fun j h => HA.out j (by have h2 : j < x.hb.length := h; omega)
      have hkk : Hid (k = x.hb.length) := Lib.hid (by omega)
      clear HA
      go_wp2_with (fail)
      have HBS := Lib.hid hB
      clear c0 hbx hbw hB
      go_loopw [5] (fun s5 wi => ∃ i : Nat, i ≤ x.er.length ∧ s5 = I i ∧ Below wa.heap.size wa wi ∧ Hid (∀ j, j < i → EruOk x j)) (fun s _ => x.er.length - (intOf s).toNat)
      case atStart => exact ⟨0, by omega, rfl, HBS.out, Lib.hid fun j h => by omega⟩
      case round =>
        obtain ⟨i, hi, rfl, hB, HA⟩ := hrel
        have hzr2 := hB.size
        obtain ⟨hbw, hbx⟩ := HCE.out _ hB
        obtain ⟨c1, _⟩ := hbx.at_ 1 _ rfl
        have hX1 : w.heap.size < wr.heap.size := by omega
        by_cases hlt : i < x.er.length
        · obtain ⟨eb, eo, rfl, hez, hec⟩ := (HWA.out _ hbw).er (by omega)
          obtain ⟨e0, e1⟩ := hec i hlt
          rw [HER.out i hlt] at e0 e1
          dsimp only at e0 e1
          have HCS : Hid (∀ W, Below wr.heap.size wr W → ∀ k, k < x.er.length → W.cell? ⟨eb, eo + k * 2, none⟩ = some (I (x.sp k)) ∧ W.cell? ⟨eb, eo + k * 2 + 1, none⟩ = some (I (x.tm k))) := Lib.hid fun W hW k hk => by
            have h := hec k hk
            rw [HER.out k hk] at h
            exact ⟨(hW.cell (p := ⟨eb, _, none⟩) hez).trans h.1, (hW.cell (p := ⟨eb, _, none⟩) hez).trans h.2⟩
          have HNi : Hid (¬ EruOk x i → wb = false) := Lib.hid fun h => HNO.out fun h2 => h (h2.eru i hlt)
          have HEO : Hid (EruOk x i ↔ (inB (x.sp i) 0 ((x.hb.length : Int) - 1) = true ∧ inB (x.tm i) 0 en = true ∧ (0 < i → x.tm (i - 1) ≤ x.tm i) ∧ ∀ k, k < i → ¬ (x.sp k = x.sp i ∧ x.tm k = x.tm i))) := Lib.hid (by
            rw [inB_true, inB_true, ← HEQ.out]
            exact ⟨fun h => ⟨h.sp, h.tm, h.mono, h.dist⟩, fun h => ⟨h.1, h.2.1, h.2.2.1, h.2.2.2⟩⟩)
          have HS : Hid (EruOk x i → ∀ j, j < i + 1 → EruOk x j) := Lib.hid fun h => lt_snoc HA.out h
          have p0 : (0 : Int) ≤ (i : Int) := by omega
          have p1 : (i : Int) < (x.er.length : Int) := by omega
          obtain ⟨spi, hspi⟩ : ∃ z, x.sp i = z := ⟨_, rfl⟩
          obtain ⟨tmi, htmi⟩ : ∃ z, x.tm i = z := ⟨_, rfl⟩
          rw [hspi] at e0 HEO
          rw [htmi] at e1 HEO
          clear hspi htmi
          have hwn : IntKind.i64.wrap ((x.hb.length : Int) - 1) = (x.hb.length : Int) - 1 := IntWalk.i64_in _ (by omega)
          have HB5 : Hid (Below wa.heap.size wa (wr.alloc (.cells #[I spi, I tmi] 50))) := Lib.hid (hB.alloc hzr2 _)
          have HBW5 : Hid (Below wr.heap.size wr (wr.alloc (.cells #[I spi, I tmi] 50))) := Lib.hid (below1 _ _)
          have HE5 : Hid (Box (wr.alloc (.cells #[I spi, I tmi] 50)) wr.heap.size [I spi, I tmi]) := Lib.hid (Box.new wr [I spi, I tmi] 50)
          have HZ5 : Hid ((wr.alloc (.cells #[I spi, I tmi] 50)).heap.size = wr.heap.size + 1) := Lib.hid (by simp)
          clear hec HA
          go_wp2_with (fail)
          clear e0 e1 c1
          generalize wr.alloc (.cells #[I spi, I tmi] 50) = w5 at *
          have hz5 := HZ5.out
          generalize hE6 : wr.heap.size = E6 at *
          obtain ⟨p, hp⟩ : ∃ p, p = i - 1 := ⟨_, rfl⟩
          have hpm : p < x.er.length := by omega
          have HC5 : Hid (∀ W, Below w5.heap.size w5 W → W.cell? ⟨w.heap.size, 0, none⟩ = some (.slice A x.hb.length c) ∧ W.cell? ⟨w.heap.size, 1, none⟩ = some (.slice (some ⟨eb, eo, none⟩) x.er.length d) ∧ W.cell? ⟨w.heap.size, 2, none⟩ = some (I en) ∧ W.cell? ⟨E6, 0, none⟩ = some (I spi) ∧ W.cell? ⟨E6, 1, none⟩ = some (I tmi) ∧ W.cell? ⟨eb, eo + p * 2 + 1, none⟩ = some (I (x.tm p))) := Lib.hid fun W hW => by
            obtain ⟨_, q1⟩ := HCE.out W (HB5.out.trans (hW.mono (by omega)))
            exact ⟨(q1.at_ 0 _ rfl).1, (q1.at_ 1 _ rfl).1, (q1.at_ 2 _ rfl).1, ((HE5.out.call hW).at_ 0 _ rfl).1, ((HE5.out.call hW).at_ 1 _ rfl).1, (HCS.out W (HBW5.out.trans (hW.mono (by omega))) p hpm).2⟩
          have HBF : Hid (∀ W, Below w5.heap.size w5 W → Below w.heap.size w W ∧ Below wa.heap.size wa W) := Lib.hid fun W hW => ⟨(HCE.out W (HB5.out.trans (hW.mono (by omega)))).1, HB5.out.trans (hW.mono (by omega))⟩
          rw [← hp] at HEO
          have hlp : (0 < i → p < x.er.length ∧ ((i : Int) - 1 = (p : Int))) := fun h => ⟨hpm, by omega⟩
          clear hp
          obtain ⟨tmp_, htp⟩ : ∃ z, x.tm p = z := ⟨_, rfl⟩
          rw [htp] at HC5 HEO
          clear htp
          have H44a0 := Lib.hid fun W => H44.out spi 0 ((x.hb.length : Int) - 1) W
          have H44b0 := Lib.hid fun W => H44.out tmi 0 en W
          obtain ⟨c1, hc1⟩ : ∃ c1, inB spi 0 ((x.hb.length : Int) - 1) = c1 := ⟨_, rfl⟩
          obtain ⟨c2, hc2⟩ : ∃ c2, inB tmi 0 en = c2 := ⟨_, rfl⟩
          rw [hc1] at H44a0 HEO
          rw [hc2] at H44b0 HEO
          clear hc1 hc2
          cases c1
          · have hbad : ¬ EruOk x i := fun h => by have := (HEO.out.1 h).1; cases this
            have HR := Lib.hid (HNi.out hbad)
            have H44a := H44a0
            refine (wpIn_wide (n := 9)).1 ?_
            refine wpIn_region_valsB [some 86, some 87, some 88, some 89, some 90, some 91, some 92, some 93, some 94, some 95, some 96, some 97, some 98, some 99, some 100, some 101, some 102, some 103, some 104, some 105, some 106, some 107, some 108, some 109, some 110, some 111, some 112, some 113, some 114, some 115, some 116, some 117]
              (nthV [.pointer (some ⟨E6, 0, none⟩), I spi, .pointer (some ⟨w.heap.size, 0, none⟩), .slice A x.hb.length c, I x.hb.length, I ((x.hb.length : Int) - 1), .bool false, .bool true, .bool true, undef, undef, undef, undef, undef, undef, .bool true, .bool true, undef, undef, undef, undef, undef, undef, undef, undef, undef, undef, undef, undef, undef, undef, .bool true])
              [(6, .pointer (some ⟨E6, 0, none⟩)), (1, .pointer (some ⟨w.heap.size, 0, none⟩)), (5, I i)]
              (fun W => Below w5.heap.size w5 W) rfl (by kernel_rfl) (fun _ => trivial) (by kernel_rfl) (by kernel_rfl) (by kernel_rfl) ⟨rfl, rfl, rfl, trivial⟩ (fun _ d _ _ _ h => by cases d <;> exact h) (by first | exact (Below.refl _ _).drew | exact (below_drewN (Below.refl _ _) _).drew) ?_ ?_
            · refine ⟨?_, ?_, ?_, ?_, ?_, ?_, ?_, ?_, ?_, ?_, ?_, ?_, ?_, ?_, ?_, ?_, ?_, ?_, ?_, ?_, ?_, ?_, ?_, ?_, ?_, ?_, ?_, ?_, ?_, ?_, ?_, ?_, trivial⟩
              all_goals (intro x0 W hC; obtain ⟨x0_, x1_, x2_, n0, n1, kp⟩ := HC5.out _ hC)
              all_goals first
                | (refine e_no rfl ?_; rfl)
                | (refine e_yes rfl ?_; intro b e hb K hK)
              all_goals first
                | (refine opE_li rfl hb ?_; simp only [execOp, resolve, Oper.about, envB, lookB, lookV, nthV, List.map_toArray, List.map_cons, List.map_nil, Nat.reduceEqDiff, reduceIte, Nat.succ_ne_zero, Nat.zero_ne_one, Nat.one_ne_zero, Nat.reduceAdd, Nat.zero_add]; go_simp; exact hK _ hC)
                | (refine opE_call rfl hb (fun _ => trivial) (fun h => (by cases h)) 44 #[I spi, I 0, I ((x.hb.length : Int) - 1)] ?_ ?_
                   · (simp only [execOp, resolve, Oper.about, envB, lookB, lookV, nthV, List.map_toArray, List.map_cons, List.map_nil, Nat.reduceEqDiff, reduceIte, Nat.succ_ne_zero, Nat.zero_ne_one, Nat.one_ne_zero, Nat.reduceAdd, Nat.zero_add])
                     go_simp
                   · refine callsIn_wide.2 ((H44a.out _).mono ?_)
                     rintro e w6 ⟨rfl, rfl⟩
                     exact ⟨_, rfl, hK _ hC⟩)
            · (intro W hC; have HC := Lib.hid hC; clear hC; simp only [putD, nthV, Act.put, List.setIfInBounds_toArray, List.set_cons_succ, List.set_cons_zero, Nat.zero_add, Nat.reduceAdd])
              have hCo := HC.out
              clear HC
              go_wp2_with (fail)
              refine bodyPost_ret (v := .bool false) (by simp [results, Try.results20, go_sem]) rfl ⟨by rw [HR.out], (HBF.out _ hCo).1⟩
          · have H44a := H44a0
            have H44b := H44b0
            cases c2
            · have hbad : ¬ EruOk x i := fun h => by have := (HEO.out.1 h).2.1; cases this
              have HR := Lib.hid (HNi.out hbad)
              refine (wpIn_wide (n := 9)).1 ?_
              refine wpIn_region_valsB [some 86, some 87, some 88, some 89, some 90, some 91, some 92, some 93, some 94, some 95, some 96, some 97, some 98, some 99, some 100, some 101, some 102, some 103, some 104, some 105, some 106, some 107, some 108, some 109, some 110, some 111, some 112, some 113, some 114, some 115, some 116, some 117]
                (nthV [.pointer (some ⟨E6, 0, none⟩), I spi, .pointer (some ⟨w.heap.size, 0, none⟩), .slice A x.hb.length c, I x.hb.length, I ((x.hb.length : Int) - 1), .bool true, .bool false, .bool false, .pointer (some ⟨E6, 1, none⟩), I tmi, .pointer (some ⟨w.heap.size, 2, none⟩), I en, .bool false, .bool true, .bool true, .bool true, undef, undef, undef, undef, undef, undef, undef, undef, undef, undef, undef, undef, undef, undef, .bool true])
                [(6, .pointer (some ⟨E6, 0, none⟩)), (1, .pointer (some ⟨w.heap.size, 0, none⟩)), (5, I i)]
                (fun W => Below w5.heap.size w5 W) rfl (by kernel_rfl) (fun _ => trivial) (by kernel_rfl) (by kernel_rfl) (by kernel_rfl) ⟨rfl, rfl, rfl, trivial⟩ (fun _ d _ _ _ h => by cases d <;> exact h) (by first | exact (Below.refl _ _).drew | exact (below_drewN (Below.refl _ _) _).drew) ?_ ?_
              · refine ⟨?_, ?_, ?_, ?_, ?_, ?_, ?_, ?_, ?_, ?_, ?_, ?_, ?_, ?_, ?_, ?_, ?_, ?_, ?_, ?_, ?_, ?_, ?_, ?_, ?_, ?_, ?_, ?_, ?_, ?_, ?_, ?_, trivial⟩
                all_goals (intro x0 W hC; obtain ⟨x0_, x1_, x2_, n0, n1, kp⟩ := HC5.out _ hC)
                all_goals first
                  | (refine e_no rfl ?_; rfl)
                  | (refine e_yes rfl ?_; intro b e hb K hK)
                all_goals first
                  | (refine opE_li rfl hb ?_; simp only [execOp, resolve, Oper.about, envB, lookB, lookV, nthV, List.map_toArray, List.map_cons, List.map_nil, Nat.reduceEqDiff, reduceIte, Nat.succ_ne_zero, Nat.zero_ne_one, Nat.one_ne_zero, Nat.reduceAdd, Nat.zero_add]; go_simp; exact hK _ hC)
                  | (refine opE_call rfl hb (fun _ => trivial) (fun h => (by cases h)) 44 #[I spi, I 0, I ((x.hb.length : Int) - 1)] ?_ ?_
                     · (simp only [execOp, resolve, Oper.about, envB, lookB, lookV, nthV, List.map_toArray, List.map_cons, List.map_nil, Nat.reduceEqDiff, reduceIte, Nat.succ_ne_zero, Nat.zero_ne_one, Nat.one_ne_zero, Nat.reduceAdd, Nat.zero_add])
                       go_simp
                     · refine callsIn_wide.2 ((H44a.out _).mono ?_)
                       rintro e w6 ⟨rfl, rfl⟩
                       exact ⟨_, rfl, hK _ hC⟩)
                  | (refine opE_call rfl hb (fun _ => trivial) (fun h => (by cases h)) 44 #[I tmi, I 0, I en] ?_ ?_
                     · (simp only [execOp, resolve, Oper.about, envB, lookB, lookV, nthV, List.map_toArray, List.map_cons, List.map_nil, Nat.reduceEqDiff, reduceIte, Nat.succ_ne_zero, Nat.zero_ne_one, Nat.one_ne_zero, Nat.reduceAdd, Nat.zero_add])
                       go_simp
                     · refine callsIn_wide.2 ((H44b.out _).mono ?_)
                       rintro e w6 ⟨rfl, rfl⟩
                       exact ⟨_, rfl, hK _ hC⟩)
              · (intro W hC; have HC := Lib.hid hC; clear hC; simp only [putD, nthV, Act.put, List.setIfInBounds_toArray, List.set_cons_succ, List.set_cons_zero, Nat.zero_add, Nat.reduceAdd])
                have hCo := HC.out
                clear HC
                go_wp2_with (fail)
                refine bodyPost_ret (v := .bool false) (by simp [results, Try.results20, go_sem]) rfl ⟨by rw [HR.out], (HBF.out _ hCo).1⟩
            · by_cases hi0 : i = 0
              · have HMO : Hid (0 < i → tmp_ ≤ tmi) := Lib.hid fun h => by omega
                have hdi : decide ((0 : Int) < (i : Int)) = false := decide_eq_false (by omega)
                have hdn : decide (0 < i) = false := decide_eq_false (by omega)
                have HI0 := Lib.hid hi0
                clear hi0 hlp
                refine (wpIn_wide (n := 9)).1 ?_
                refine wpIn_region_valsB [some 86, some 87, some 88, some 89, some 90, some 91, some 92, some 93, some 94, some 95, some 96, some 97, some 98, some 99, some 100, some 101, some 102, some 103, some 104, some 105, some 106, some 107, some 108, some 109, some 110, some 111, some 112, some 113, some 114, some 115, some 116, some 117]
                  (nthV [.pointer (some ⟨E6, 0, none⟩), I spi, .pointer (some ⟨w.heap.size, 0, none⟩), .slice A x.hb.length c, I x.hb.length, I ((x.hb.length : Int) - 1), .bool true, .bool false, .bool false, .pointer (some ⟨E6, 1, none⟩), I tmi, .pointer (some ⟨w.heap.size, 2, none⟩), I en, .bool true, .bool false, .bool false, .bool false, I i, .bool false, .bool false, undef, undef, undef, undef, undef, undef, undef, undef, undef, undef, .bool false, .bool false])
                  [(6, .pointer (some ⟨E6, 0, none⟩)), (1, .pointer (some ⟨w.heap.size, 0, none⟩)), (5, I i)]
                  (fun W => Below w5.heap.size w5 W) rfl (by kernel_rfl) (fun _ => trivial) (by kernel_rfl) (by kernel_rfl) (by kernel_rfl) ⟨rfl, rfl, rfl, trivial⟩ (fun _ d _ _ _ h => by cases d <;> exact h) (by first | exact (Below.refl _ _).drew | exact (below_drewN (Below.refl _ _) _).drew) ?_ ?_
                · refine ⟨?_, ?_, ?_, ?_, ?_, ?_, ?_, ?_, ?_, ?_, ?_, ?_, ?_, ?_, ?_, ?_, ?_, ?_, ?_, ?_, ?_, ?_, ?_, ?_, ?_, ?_, ?_, ?_, ?_, ?_, ?_, ?_, trivial⟩
                  all_goals (intro x0 W hC; obtain ⟨x0_, x1_, x2_, n0, n1, kp⟩ := HC5.out _ hC)
                  all_goals first
                    | (refine e_no rfl ?_; rfl)
                    | (refine e_yes rfl ?_; intro b e hb K hK)
                  all_goals first
                    | (refine opE_li rfl hb ?_; simp only [execOp, resolve, Oper.about, envB, lookB, lookV, nthV, List.map_toArray, List.map_cons, List.map_nil, Nat.reduceEqDiff, reduceIte, Nat.succ_ne_zero, Nat.zero_ne_one, Nat.one_ne_zero, Nat.reduceAdd, Nat.zero_add]; go_simp; exact hK _ hC)
                    | (refine opE_call rfl hb (fun _ => trivial) (fun h => (by cases h)) 44 #[I spi, I 0, I ((x.hb.length : Int) - 1)] ?_ ?_
                       · (simp only [execOp, resolve, Oper.about, envB, lookB, lookV, nthV, List.map_toArray, List.map_cons, List.map_nil, Nat.reduceEqDiff, reduceIte, Nat.succ_ne_zero, Nat.zero_ne_one, Nat.one_ne_zero, Nat.reduceAdd, Nat.zero_add])
                         go_simp
                       · refine callsIn_wide.2 ((H44a.out _).mono ?_)
                         rintro e w6 ⟨rfl, rfl⟩
                         exact ⟨_, rfl, hK _ hC⟩)
                    | (refine opE_call rfl hb (fun _ => trivial) (fun h => (by cases h)) 44 #[I tmi, I 0, I en] ?_ ?_
                       · (simp only [execOp, resolve, Oper.about, envB, lookB, lookV, nthV, List.map_toArray, List.map_cons, List.map_nil, Nat.reduceEqDiff, reduceIte, Nat.succ_ne_zero, Nat.zero_ne_one, Nat.one_ne_zero, Nat.reduceAdd, Nat.zero_add])
                         go_simp
                       · refine callsIn_wide.2 ((H44b.out _).mono ?_)
                         rintro e w6 ⟨rfl, rfl⟩
                         exact ⟨_, rfl, hK _ hC⟩)
                · skip
                  (intro W hC; have HC := Lib.hid hC; clear hC; simp only [putD, nthV, Act.put, List.setIfInBounds_toArray, List.set_cons_succ, List.set_cons_zero, Nat.zero_add, Nat.reduceAdd])
                  have hCo := HC.out
                  clear HC
                  obtain ⟨hCw, hCa⟩ := HBF.out _ hCo
                  have HCo := Lib.hid hCo
                  clear hCw hCa hCo
                  go_wp2_with (fail)
                  go_loopw [7] (fun s7 wi => ∃ k : Nat, k ≤ i ∧ s7 = I k ∧ Below w5.heap.size w5 wi ∧ Hid (∀ j, j < k → ¬ (x.sp j = spi ∧ x.tm j = tmi))) (fun s _ => i - (intOf s).toNat)
                  case atStart => exact ⟨0, by omega, rfl, HCo.out, Lib.hid fun j h => by omega⟩
                  case round =>
                    obtain ⟨k, hk, rfl, hBk, HD⟩ := hrel
                    have hzk := hBk.size
                    obtain ⟨hkw, hka⟩ := HBF.out _ hBk
                    by_cases hlk : k < i
                    · have r0 : (0 : Int) ≤ (k : Int) := by omega
                      have r1 : (k : Int) < (i : Int) := by omega
                      have r2 : (k : Int) < (x.er.length : Int) := by omega
                      have HCK : Hid (∀ W, Below wr.heap.size wr W → W.cell? ⟨w.heap.size, 1, none⟩ = some (.slice (some ⟨eb, eo, none⟩) x.er.length d) ∧ W.cell? ⟨E6, 0, none⟩ = some (I spi) ∧ W.cell? ⟨E6, 1, none⟩ = some (I tmi) ∧ W.cell? ⟨eb, eo + k * 2, none⟩ = some (I (x.sp k)) ∧ W.cell? ⟨eb, eo + k * 2 + 1, none⟩ = some (I (x.tm k))) := Lib.hid fun W hW => by
                        have hb := hBk.trans (hW.mono hzk)
                        obtain ⟨_, q1⟩ := HCE.out W (HB5.out.trans (hb.mono (by omega)))
                        obtain ⟨k0, k1⟩ := HCS.out W (HBW5.out.trans (hb.mono (by omega))) k (by omega)
                        exact ⟨(q1.at_ 1 _ rfl).1, ((HE5.out.call hb).at_ 0 _ rfl).1, ((HE5.out.call hb).at_ 1 _ rfl).1, k0, k1⟩
                      have HDS : Hid (¬ (x.sp k = spi ∧ x.tm k = tmi) → ∀ j, j < k + 1 → ¬ (x.sp j = spi ∧ x.tm j = tmi)) := Lib.hid fun h => lt_snoc HD.out h
                      have HDB : Hid (x.sp k = spi ∧ x.tm k = tmi → wb = false) := Lib.hid fun h => HNi.out fun h2 => ((HEO.out.1 h2).2.2.2 k hlk) h
                      clear HD
                      generalize x.sp k = spk at *
                      generalize x.tm k = tmk at *
                      by_cases g1 : spk = spi
                      · by_cases g2 : tmk = tmi
                        · have HR := Lib.hid (HDB.out ⟨g1, g2⟩)
                          rw [g1, g2] at HCK
                          clear g1 g2 HDB HDS
                          go_wp2_with (fail)
                          refine (wpIn_wide (n := 9)).1 ?_
                          refine wpIn_region_valsB [some 123, some 124, some 125, some 126, some 127, some 128, some 129]
                            (nthV [.pointer (some ⟨w.heap.size, 1, none⟩), .slice (some ⟨eb, eo, none⟩) x.er.length d, I k, .pointer (some ⟨eb, eo + k * 2, none⟩), .agg #[I spi, I tmi], .agg #[I spi, I tmi], .bool true])
                            [(1, .pointer (some ⟨w.heap.size, 0, none⟩)), (7, I k), (6, .pointer (some ⟨E6, 0, none⟩))]
                            (fun W => Below wr.heap.size wr W) rfl (by kernel_rfl) (fun _ => trivial) (by kernel_rfl) (by kernel_rfl) (by kernel_rfl) ⟨rfl, rfl, rfl, trivial⟩ (fun _ d _ _ _ h => by cases d <;> exact h) (by first | exact (Below.refl _ _).drew | exact (below_drewN (Below.refl _ _) _).drew) ?_ ?_
                          · refine ⟨?_, ?_, ?_, ?_, ?_, ?_, ?_, trivial⟩
                            all_goals (intro x0 W hC; obtain ⟨x1_, n0, n1, k0, k1⟩ := HCK.out _ hC)
                            all_goals first
                              | (refine e_no rfl ?_; rfl)
                              | (refine e_yes rfl ?_; intro b e hb K hK)
                            all_goals first
                              | (refine opE_li rfl hb ?_; simp only [execOp, resolve, Oper.about, envB, lookB, lookV, nthV, List.map_toArray, List.map_cons, List.map_nil, Nat.reduceEqDiff, reduceIte, Nat.succ_ne_zero, Nat.zero_ne_one, Nat.one_ne_zero, Nat.reduceAdd, Nat.zero_add]; go_simp; exact hK _ hC)
                          · (intro W hC; have HC := Lib.hid hC; clear hC; simp only [putD, nthV, Act.put, List.setIfInBounds_toArray, List.set_cons_succ, List.set_cons_zero, Nat.zero_add, Nat.reduceAdd])
                            have hCo := HC.out
                            clear HC
                            go_wp2_with (fail)
                            refine bodyPost_ret (v := .bool false) (by simp [results, Try.results20, go_sem]) rfl ⟨by rw [HR.out], (HBF.out _ (hBk.trans (hCo.mono hzk))).1⟩
                        · have HDN := Lib.hid (HDS.out fun h => g2 h.2)
                          rw [g1] at HCK
                          clear g1 HDB HDS
                          go_wp2_with (fail)
                          refine (wpIn_wide (n := 9)).1 ?_
                          refine wpIn_region_valsB [some 123, some 124, some 125, some 126, some 127, some 128, some 129]
                            (nthV [.pointer (some ⟨w.heap.size, 1, none⟩), .slice (some ⟨eb, eo, none⟩) x.er.length d, I k, .pointer (some ⟨eb, eo + k * 2, none⟩), .agg #[I spi, I tmk], .agg #[I spi, I tmi], .bool false])
                            [(1, .pointer (some ⟨w.heap.size, 0, none⟩)), (7, I k), (6, .pointer (some ⟨E6, 0, none⟩))]
                            (fun W => Below wr.heap.size wr W) rfl (by kernel_rfl) (fun _ => trivial) (by kernel_rfl) (by kernel_rfl) (by kernel_rfl) ⟨rfl, rfl, rfl, trivial⟩ (fun _ d _ _ _ h => by cases d <;> exact h) (by first | exact (Below.refl _ _).drew | exact (below_drewN (Below.refl _ _) _).drew) ?_ ?_
                          · refine ⟨?_, ?_, ?_, ?_, ?_, ?_, ?_, trivial⟩
                            all_goals (intro x0 W hC; obtain ⟨x1_, n0, n1, k0, k1⟩ := HCK.out _ hC)
                            all_goals first
                              | (refine e_no rfl ?_; rfl)
                              | (refine e_yes rfl ?_; intro b e hb K hK)
                            all_goals first
                              | (refine opE_li rfl hb ?_; simp only [execOp, resolve, Oper.about, envB, lookB, lookV, nthV, List.map_toArray, List.map_cons, List.map_nil, Nat.reduceEqDiff, reduceIte, Nat.succ_ne_zero, Nat.zero_ne_one, Nat.one_ne_zero, Nat.reduceAdd, Nat.zero_add]; go_simp; exact hK _ hC)
                          · (intro W hC; have HC := Lib.hid hC; clear hC; simp only [putD, nthV, Act.put, List.setIfInBounds_toArray, List.set_cons_succ, List.set_cons_zero, Nat.zero_add, Nat.reduceAdd])
                            have hCo := HC.out
                            clear HC
                            go_wp2_with (fail)
                            go_roundw
                            case rel => first | exact ⟨k + 1, by omega, by go_num, hBk.trans (hCo.mono hzk), HDN⟩ | ((repeat apply Exists.intro); refine ⟨?_, rfl⟩; exact ⟨k + 1, by omega, by go_num, hBk.trans (hCo.mono hzk), HDN⟩)
                            case measure => first | (simp [intOf]; done) | (simp [intOf]; omega)
                      · have HDN := Lib.hid (HDS.out fun h => g1 h.1)
                        go_wp2_with (fail)
                        refine (wpIn_wide (n := 9)).1 ?_
                        refine wpIn_region_valsB [some 123, some 124, some 125, some 126, some 127, some 128, some 129]
                          (nthV [.pointer (some ⟨w.heap.size, 1, none⟩), .slice (some ⟨eb, eo, none⟩) x.er.length d, I k, .pointer (some ⟨eb, eo + k * 2, none⟩), .agg #[I spk, I tmk], .agg #[I spi, I tmi], .bool false])
                          [(1, .pointer (some ⟨w.heap.size, 0, none⟩)), (7, I k), (6, .pointer (some ⟨E6, 0, none⟩))]
                          (fun W => Below wr.heap.size wr W) rfl (by kernel_rfl) (fun _ => trivial) (by kernel_rfl) (by kernel_rfl) (by kernel_rfl) ⟨rfl, rfl, rfl, trivial⟩ (fun _ d _ _ _ h => by cases d <;> exact h) (by first | exact (Below.refl _ _).drew | exact (below_drewN (Below.refl _ _) _).drew) ?_ ?_
                        · refine ⟨?_, ?_, ?_, ?_, ?_, ?_, ?_, trivial⟩
                          all_goals (intro x0 W hC; obtain ⟨x1_, n0, n1, k0, k1⟩ := HCK.out _ hC)
                          all_goals first
                            | (refine e_no rfl ?_; rfl)
                            | (refine e_yes rfl ?_; intro b e hb K hK)
                          all_goals first
                            | (refine opE_li rfl hb ?_; simp only [execOp, resolve, Oper.about, envB, lookB, lookV, nthV, List.map_toArray, List.map_cons, List.map_nil, Nat.reduceEqDiff, reduceIte, Nat.succ_ne_zero, Nat.zero_ne_one, Nat.one_ne_zero, Nat.reduceAdd, Nat.zero_add]; go_simp; exact hK _ hC)
                        · (intro W hC; have HC := Lib.hid hC; clear hC; simp only [putD, nthV, Act.put, List.setIfInBounds_toArray, List.set_cons_succ, List.set_cons_zero, Nat.zero_add, Nat.reduceAdd])
                          have hCo := HC.out
                          clear HC
                          go_wp2_with (fail)
                          go_roundw
                          case rel => first | exact ⟨k + 1, by omega, by go_num, hBk.trans (hCo.mono hzk), HDN⟩ | ((repeat apply Exists.intro); refine ⟨?_, rfl⟩; exact ⟨k + 1, by omega, by go_num, hBk.trans (hCo.mono hzk), HDN⟩)
                          case measure => first | (simp [intOf]; done) | (simp [intOf]; omega)
                    · obtain rfl : k = i := by omega
                      have HSN := Lib.hid (HS.out (HEO.out.2 ⟨by trivial, by trivial, HMO.out, HD.out⟩))
                      clear HD
                      go_wp2_with (fail)
                      go_roundw
                      case rel => first | exact ⟨k + 1, by omega, by go_num, hka, HSN⟩ | ((repeat apply Exists.intro); refine ⟨?_, rfl⟩; exact ⟨k + 1, by omega, by go_num, hka, HSN⟩)
                      case measure => first | (simp [intOf]; done) | (simp [intOf]; omega)
              · have hdi : decide ((0 : Int) < (i : Int)) = true := decide_eq_true (by omega)
                have hdn : decide (0 < i) = true := decide_eq_true (by omega)
                have hwi : IntKind.i64.wrap ((i : Int) - 1) = (p : Int) := by rw [(hlp (by omega)).2]; exact IntWalk.i64_in _ (by omega)
                have s0 : (0 : Int) ≤ (p : Int) := by omega
                have s1 : (p : Int) < (x.er.length : Int) := by omega
                have HI0 : Hid (0 < i) := Lib.hid (by omega)
                clear hi0 hlp
                by_cases hlo : tmi < tmp_
                · have hbad : ¬ EruOk x i := fun h => by have := (HEO.out.1 h).2.2.1 HI0.out; omega
                  have HR := Lib.hid (HNi.out hbad)
                  have hdl : decide (tmi < tmp_) = true := decide_eq_true hlo
                  refine (wpIn_wide (n := 9)).1 ?_
                  refine wpIn_region_valsB [some 86, some 87, some 88, some 89, some 90, some 91, some 92, some 93, some 94, some 95, some 96, some 97, some 98, some 99, some 100, some 101, some 102, some 103, some 104, some 105, some 106, some 107, some 108, some 109, some 110, some 111, some 112, some 113, some 114, some 115, some 116, some 117]
                    (nthV [.pointer (some ⟨E6, 0, none⟩), I spi, .pointer (some ⟨w.heap.size, 0, none⟩), .slice A x.hb.length c, I x.hb.length, I ((x.hb.length : Int) - 1), .bool true, .bool false, .bool false, .pointer (some ⟨E6, 1, none⟩), I tmi, .pointer (some ⟨w.heap.size, 2, none⟩), I en, .bool true, .bool false, .bool false, .bool false, I i, .bool true, .bool true, .pointer (some ⟨E6, 1, none⟩), I tmi, .pointer (some ⟨w.heap.size, 1, none⟩), .slice (some ⟨eb, eo, none⟩) x.er.length d, I i, I p, .pointer (some ⟨eb, eo + p * 2, none⟩), .pointer (some ⟨eb, eo + p * 2 + 1, none⟩), I tmp_, .bool true, .bool true, .bool true])
                    [(6, .pointer (some ⟨E6, 0, none⟩)), (1, .pointer (some ⟨w.heap.size, 0, none⟩)), (5, I i)]
                    (fun W => Below w5.heap.size w5 W) rfl (by kernel_rfl) (fun _ => trivial) (by kernel_rfl) (by kernel_rfl) (by kernel_rfl) ⟨rfl, rfl, rfl, trivial⟩ (fun _ d _ _ _ h => by cases d <;> exact h) (by first | exact (Below.refl _ _).drew | exact (below_drewN (Below.refl _ _) _).drew) ?_ ?_
                  · refine ⟨?_, ?_, ?_, ?_, ?_, ?_, ?_, ?_, ?_, ?_, ?_, ?_, ?_, ?_, ?_, ?_, ?_, ?_, ?_, ?_, ?_, ?_, ?_, ?_, ?_, ?_, ?_, ?_, ?_, ?_, ?_, ?_, trivial⟩
                    all_goals (intro x0 W hC; obtain ⟨x0_, x1_, x2_, n0, n1, kp⟩ := HC5.out _ hC)
                    all_goals first
                      | (refine e_no rfl ?_; rfl)
                      | (refine e_yes rfl ?_; intro b e hb K hK)
                    all_goals first
                      | (refine opE_li rfl hb ?_; simp only [execOp, resolve, Oper.about, envB, lookB, lookV, nthV, List.map_toArray, List.map_cons, List.map_nil, Nat.reduceEqDiff, reduceIte, Nat.succ_ne_zero, Nat.zero_ne_one, Nat.one_ne_zero, Nat.reduceAdd, Nat.zero_add]; go_simp; exact hK _ hC)
                      | (refine opE_call rfl hb (fun _ => trivial) (fun h => (by cases h)) 44 #[I spi, I 0, I ((x.hb.length : Int) - 1)] ?_ ?_
                         · (simp only [execOp, resolve, Oper.about, envB, lookB, lookV, nthV, List.map_toArray, List.map_cons, List.map_nil, Nat.reduceEqDiff, reduceIte, Nat.succ_ne_zero, Nat.zero_ne_one, Nat.one_ne_zero, Nat.reduceAdd, Nat.zero_add])
                           go_simp
                         · refine callsIn_wide.2 ((H44a.out _).mono ?_)
                           rintro e w6 ⟨rfl, rfl⟩
                           exact ⟨_, rfl, hK _ hC⟩)
                      | (refine opE_call rfl hb (fun _ => trivial) (fun h => (by cases h)) 44 #[I tmi, I 0, I en] ?_ ?_
                         · (simp only [execOp, resolve, Oper.about, envB, lookB, lookV, nthV, List.map_toArray, List.map_cons, List.map_nil, Nat.reduceEqDiff, reduceIte, Nat.succ_ne_zero, Nat.zero_ne_one, Nat.one_ne_zero, Nat.reduceAdd, Nat.zero_add])
                           go_simp
                         · refine callsIn_wide.2 ((H44b.out _).mono ?_)
                           rintro e w6 ⟨rfl, rfl⟩
                           exact ⟨_, rfl, hK _ hC⟩)
                  · (intro W hC; have HC := Lib.hid hC; clear hC; simp only [putD, nthV, Act.put, List.setIfInBounds_toArray, List.set_cons_succ, List.set_cons_zero, Nat.zero_add, Nat.reduceAdd])
                    have hCo := HC.out
                    clear HC
                    go_wp2_with (fail)
                    refine bodyPost_ret (v := .bool false) (by simp [results, Try.results20, go_sem]) rfl ⟨by rw [HR.out], (HBF.out _ hCo).1⟩
                · have hdl : decide (tmi < tmp_) = false := decide_eq_false hlo
                  have HMO : Hid (0 < i → tmp_ ≤ tmi) := Lib.hid fun _ => by omega
                  refine (wpIn_wide (n := 9)).1 ?_
                  refine wpIn_region_valsB [some 86, some 87, some 88, some 89, some 90, some 91, some 92, some 93, some 94, some 95, some 96, some 97, some 98, some 99, some 100, some 101, some 102, some 103, some 104, some 105, some 106, some 107, some 108, some 109, some 110, some 111, some 112, some 113, some 114, some 115, some 116, some 117]
                    (nthV [.pointer (some ⟨E6, 0, none⟩), I spi, .pointer (some ⟨w.heap.size, 0, none⟩), .slice A x.hb.length c, I x.hb.length, I ((x.hb.length : Int) - 1), .bool true, .bool false, .bool false, .pointer (some ⟨E6, 1, none⟩), I tmi, .pointer (some ⟨w.heap.size, 2, none⟩), I en, .bool true, .bool false, .bool false, .bool false, I i, .bool true, .bool true, .pointer (some ⟨E6, 1, none⟩), I tmi, .pointer (some ⟨w.heap.size, 1, none⟩), .slice (some ⟨eb, eo, none⟩) x.er.length d, I i, I p, .pointer (some ⟨eb, eo + p * 2, none⟩), .pointer (some ⟨eb, eo + p * 2 + 1, none⟩), I tmp_, .bool false, .bool false, .bool false])
                    [(6, .pointer (some ⟨E6, 0, none⟩)), (1, .pointer (some ⟨w.heap.size, 0, none⟩)), (5, I i)]
                    (fun W => Below w5.heap.size w5 W) rfl (by kernel_rfl) (fun _ => trivial) (by kernel_rfl) (by kernel_rfl) (by kernel_rfl) ⟨rfl, rfl, rfl, trivial⟩ (fun _ d _ _ _ h => by cases d <;> exact h) (by first | exact (Below.refl _ _).drew | exact (below_drewN (Below.refl _ _) _).drew) ?_ ?_
                  · refine ⟨?_, ?_, ?_, ?_, ?_, ?_, ?_, ?_, ?_, ?_, ?_, ?_, ?_, ?_, ?_, ?_, ?_, ?_, ?_, ?_, ?_, ?_, ?_, ?_, ?_, ?_, ?_, ?_, ?_, ?_, ?_, ?_, trivial⟩
                    all_goals (intro x0 W hC; obtain ⟨x0_, x1_, x2_, n0, n1, kp⟩ := HC5.out _ hC)
                    all_goals first
                      | (refine e_no rfl ?_; rfl)
                      | (refine e_yes rfl ?_; intro b e hb K hK)
                    all_goals first
                      | (refine opE_li rfl hb ?_; simp only [execOp, resolve, Oper.about, envB, lookB, lookV, nthV, List.map_toArray, List.map_cons, List.map_nil, Nat.reduceEqDiff, reduceIte, Nat.succ_ne_zero, Nat.zero_ne_one, Nat.one_ne_zero, Nat.reduceAdd, Nat.zero_add]; go_simp; exact hK _ hC)
                      | (refine opE_call rfl hb (fun _ => trivial) (fun h => (by cases h)) 44 #[I spi, I 0, I ((x.hb.length : Int) - 1)] ?_ ?_
                         · (simp only [execOp, resolve, Oper.about, envB, lookB, lookV, nthV, List.map_toArray, List.map_cons, List.map_nil, Nat.reduceEqDiff, reduceIte, Nat.succ_ne_zero, Nat.zero_ne_one, Nat.one_ne_zero, Nat.reduceAdd, Nat.zero_add])
                           go_simp
                         · refine callsIn_wide.2 ((H44a.out _).mono ?_)
                           rintro e w6 ⟨rfl, rfl⟩
                           exact ⟨_, rfl, hK _ hC⟩)
                      | (refine opE_call rfl hb (fun _ => trivial) (fun h => (by cases h)) 44 #[I tmi, I 0, I en] ?_ ?_
                         · (simp only [execOp, resolve, Oper.about, envB, lookB, lookV, nthV, List.map_toArray, List.map_cons, List.map_nil, Nat.reduceEqDiff, reduceIte, Nat.succ_ne_zero, Nat.zero_ne_one, Nat.one_ne_zero, Nat.reduceAdd, Nat.zero_add])
                           go_simp
                         · refine callsIn_wide.2 ((H44b.out _).mono ?_)
                           rintro e w6 ⟨rfl, rfl⟩
                           exact ⟨_, rfl, hK _ hC⟩)
                  · skip
                    (intro W hC; have HC := Lib.hid hC; clear hC; simp only [putD, nthV, Act.put, List.setIfInBounds_toArray, List.set_cons_succ, List.set_cons_zero, Nat.zero_add, Nat.reduceAdd])
                    have hCo := HC.out
                    clear HC
                    obtain ⟨hCw, hCa⟩ := HBF.out _ hCo
                    have HCo := Lib.hid hCo
                    clear hCw hCa hCo
                    go_wp2_with (fail)
                    go_loopw [7] (fun s7 wi => ∃ k : Nat, k ≤ i ∧ s7 = I k ∧ Below w5.heap.size w5 wi ∧ Hid (∀ j, j < k → ¬ (x.sp j = spi ∧ x.tm j = tmi))) (fun s _ => i - (intOf s).toNat)
                    case atStart => exact ⟨0, by omega, rfl, HCo.out, Lib.hid fun j h => by omega⟩
                    case round =>
                      obtain ⟨k, hk, rfl, hBk, HD⟩ := hrel
                      have hzk := hBk.size
                      obtain ⟨hkw, hka⟩ := HBF.out _ hBk
                      by_cases hlk : k < i
                      · have r0 : (0 : Int) ≤ (k : Int) := by omega
                        have r1 : (k : Int) < (i : Int) := by omega
                        have r2 : (k : Int) < (x.er.length : Int) := by omega
                        have HCK : Hid (∀ W, Below wr.heap.size wr W → W.cell? ⟨w.heap.size, 1, none⟩ = some (.slice (some ⟨eb, eo, none⟩) x.er.length d) ∧ W.cell? ⟨E6, 0, none⟩ = some (I spi) ∧ W.cell? ⟨E6, 1, none⟩ = some (I tmi) ∧ W.cell? ⟨eb, eo + k * 2, none⟩ = some (I (x.sp k)) ∧ W.cell? ⟨eb, eo + k * 2 + 1, none⟩ = some (I (x.tm k))) := Lib.hid fun W hW => by
                          have hb := hBk.trans (hW.mono hzk)
                          obtain ⟨_, q1⟩ := HCE.out W (HB5.out.trans (hb.mono (by omega)))
                          obtain ⟨k0, k1⟩ := HCS.out W (HBW5.out.trans (hb.mono (by omega))) k (by omega)
                          exact ⟨(q1.at_ 1 _ rfl).1, ((HE5.out.call hb).at_ 0 _ rfl).1, ((HE5.out.call hb).at_ 1 _ rfl).1, k0, k1⟩
                        have HDS : Hid (¬ (x.sp k = spi ∧ x.tm k = tmi) → ∀ j, j < k + 1 → ¬ (x.sp j = spi ∧ x.tm j = tmi)) := Lib.hid fun h => lt_snoc HD.out h
                        have HDB : Hid (x.sp k = spi ∧ x.tm k = tmi → wb = false) := Lib.hid fun h => HNi.out fun h2 => ((HEO.out.1 h2).2.2.2 k hlk) h
                        clear HD
                        generalize x.sp k = spk at *
                        generalize x.tm k = tmk at *
                        by_cases g1 : spk = spi
                        · by_cases g2 : tmk = tmi
                          · have HR := Lib.hid (HDB.out ⟨g1, g2⟩)
                            rw [g1, g2] at HCK
                            clear g1 g2 HDB HDS
                            go_wp2_with (fail)
                            refine (wpIn_wide (n := 9)).1 ?_
                            refine wpIn_region_valsB [some 123, some 124, some 125, some 126, some 127, some 128, some 129]
                              (nthV [.pointer (some ⟨w.heap.size, 1, none⟩), .slice (some ⟨eb, eo, none⟩) x.er.length d, I k, .pointer (some ⟨eb, eo + k * 2, none⟩), .agg #[I spi, I tmi], .agg #[I spi, I tmi], .bool true])
                              [(1, .pointer (some ⟨w.heap.size, 0, none⟩)), (7, I k), (6, .pointer (some ⟨E6, 0, none⟩))]
                              (fun W => Below wr.heap.size wr W) rfl (by kernel_rfl) (fun _ => trivial) (by kernel_rfl) (by kernel_rfl) (by kernel_rfl) ⟨rfl, rfl, rfl, trivial⟩ (fun _ d _ _ _ h => by cases d <;> exact h) (by first | exact (Below.refl _ _).drew | exact (below_drewN (Below.refl _ _) _).drew) ?_ ?_
                            · refine ⟨?_, ?_, ?_, ?_, ?_, ?_, ?_, trivial⟩
                              all_goals (intro x0 W hC; obtain ⟨x1_, n0, n1, k0, k1⟩ := HCK.out _ hC)
                              all_goals first
                                | (refine e_no rfl ?_; rfl)
                                | (refine e_yes rfl ?_; intro b e hb K hK)
                              all_goals first
                                | (refine opE_li rfl hb ?_; simp only [execOp, resolve, Oper.about, envB, lookB, lookV, nthV, List.map_toArray, List.map_cons, List.map_nil, Nat.reduceEqDiff, reduceIte, Nat.succ_ne_zero, Nat.zero_ne_one, Nat.one_ne_zero, Nat.reduceAdd, Nat.zero_add]; go_simp; exact hK _ hC)
                            · (intro W hC; have HC := Lib.hid hC; clear hC; simp only [putD, nthV, Act.put, List.setIfInBounds_toArray, List.set_cons_succ, List.set_cons_zero, Nat.zero_add, Nat.reduceAdd])
                              have hCo := HC.out
                              clear HC
                              go_wp2_with (fail)
                              refine bodyPost_ret (v := .bool false) (by simp [results, Try.results20, go_sem]) rfl ⟨by rw [HR.out], (HBF.out _ (hBk.trans (hCo.mono hzk))).1⟩
                          · have HDN := Lib.hid (HDS.out fun h => g2 h.2)
                            rw [g1] at HCK
                            clear g1 HDB HDS
                            go_wp2_with (fail)
                            refine (wpIn_wide (n := 9)).1 ?_
                            refine wpIn_region_valsB [some 123, some 124, some 125, some 126, some 127, some 128, some 129]
                              (nthV [.pointer (some ⟨w.heap.size, 1, none⟩), .slice (some ⟨eb, eo, none⟩) x.er.length d, I k, .pointer (some ⟨eb, eo + k * 2, none⟩), .agg #[I spi, I tmk], .agg #[I spi, I tmi], .bool false])
                              [(1, .pointer (some ⟨w.heap.size, 0, none⟩)), (7, I k), (6, .pointer (some ⟨E6, 0, none⟩))]
                              (fun W => Below wr.heap.size wr W) rfl (by kernel_rfl) (fun _ => trivial) (by kernel_rfl) (by kernel_rfl) (by kernel_rfl) ⟨rfl, rfl, rfl, trivial⟩ (fun _ d _ _ _ h => by cases d <;> exact h) (by first | exact (Below.refl _ _).drew | exact (below_drewN (Below.refl _ _) _).drew) ?_ ?_
                            · refine ⟨?_, ?_, ?_, ?_, ?_, ?_, ?_, trivial⟩
                              all_goals (intro x0 W hC; obtain ⟨x1_, n0, n1, k0, k1⟩ := HCK.out _ hC)
                              all_goals first
                                | (refine e_no rfl ?_; rfl)
                                | (refine e_yes rfl ?_; intro b e hb K hK)
                              all_goals first
                                | (refine opE_li rfl hb ?_; simp only [execOp, resolve, Oper.about, envB, lookB, lookV, nthV, List.map_toArray, List.map_cons, List.map_nil, Nat.reduceEqDiff, reduceIte, Nat.succ_ne_zero, Nat.zero_ne_one, Nat.one_ne_zero, Nat.reduceAdd, Nat.zero_add]; go_simp; exact hK _ hC)
                            · (intro W hC; have HC := Lib.hid hC; clear hC; simp only [putD, nthV, Act.put, List.setIfInBounds_toArray, List.set_cons_succ, List.set_cons_zero, Nat.zero_add, Nat.reduceAdd])
                              have hCo := HC.out
                              clear HC
                              go_wp2_with (fail)
                              go_roundw
                              case rel => first | exact ⟨k + 1, by omega, by go_num, hBk.trans (hCo.mono hzk), HDN⟩ | ((repeat apply Exists.intro); refine ⟨?_, rfl⟩; exact ⟨k + 1, by omega, by go_num, hBk.trans (hCo.mono hzk), HDN⟩)
                              case measure => first | (simp [intOf]; done) | (simp [intOf]; omega)
                        · have HDN := Lib.hid (HDS.out fun h => g1 h.1)
                          go_wp2_with (fail)
                          refine (wpIn_wide (n := 9)).1 ?_
                          refine wpIn_region_valsB [some 123, some 124, some 125, some 126, some 127, some 128, some 129]
                            (nthV [.pointer (some ⟨w.heap.size, 1, none⟩), .slice (some ⟨eb, eo, none⟩) x.er.length d, I k, .pointer (some ⟨eb, eo + k * 2, none⟩), .agg #[I spk, I tmk], .agg #[I spi, I tmi], .bool false])
                            [(1, .pointer (some ⟨w.heap.size, 0, none⟩)), (7, I k), (6, .pointer (some ⟨E6, 0, none⟩))]
                            (fun W => Below wr.heap.size wr W) rfl (by kernel_rfl) (fun _ => trivial) (by kernel_rfl) (by kernel_rfl) (by kernel_rfl) ⟨rfl, rfl, rfl, trivial⟩ (fun _ d _ _ _ h => by cases d <;> exact h) (by first | exact (Below.refl _ _).drew | exact (below_drewN (Below.refl _ _) _).drew) ?_ ?_
                          · refine ⟨?_, ?_, ?_, ?_, ?_, ?_, ?_, trivial⟩
                            all_goals (intro x0 W hC; obtain ⟨x1_, n0, n1, k0, k1⟩ := HCK.out _ hC)
                            all_goals first
                              | (refine e_no rfl ?_; rfl)
                              | (refine e_yes rfl ?_; intro b e hb K hK)
                            all_goals first
                              | (refine opE_li rfl hb ?_; simp only [execOp, resolve, Oper.about, envB, lookB, lookV, nthV, List.map_toArray, List.map_cons, List.map_nil, Nat.reduceEqDiff, reduceIte, Nat.succ_ne_zero, Nat.zero_ne_one, Nat.one_ne_zero, Nat.reduceAdd, Nat.zero_add]; go_simp; exact hK _ hC)
                          · (intro W hC; have HC := Lib.hid hC; clear hC; simp only [putD, nthV, Act.put, List.setIfInBounds_toArray, List.set_cons_succ, List.set_cons_zero, Nat.zero_add, Nat.reduceAdd])
                            have hCo := HC.out
                            clear HC
                            go_wp2_with (fail)
                            go_roundw
                            case rel => first | exact ⟨k + 1, by omega, by go_num, hBk.trans (hCo.mono hzk), HDN⟩ | ((repeat apply Exists.intro); refine ⟨?_, rfl⟩; exact ⟨k + 1, by omega, by go_num, hBk.trans (hCo.mono hzk), HDN⟩)
                            case measure => first | (simp [intOf]; done) | (simp [intOf]; omega)
                      · obtain rfl : k = i := by omega
                        have HSN := Lib.hid (HS.out (HEO.out.2 ⟨by trivial, by trivial, HMO.out, HD.out⟩))
                        clear HD
                        go_wp2_with (fail)
                        go_roundw
                        case rel => first | exact ⟨k + 1, by omega, by go_num, hka, HSN⟩ | ((repeat apply Exists.intro); refine ⟨?_, rfl⟩; exact ⟨k + 1, by omega, by go_num, hka, HSN⟩)
                        case measure => first | (simp [intOf]; done) | (simp [intOf]; omega)
        · have HHE : Hid (∀ j, j < x.m → EruOk x j) := Lib.hid fun j h => HA.out j (by have h2 : j < x.er.length := h; omega)
          have HR := Lib.hid (HYES.out ⟨show x.hb.length ≤ 6 by omega, show x.er.length ≤ 64 by omega, HEN.out, HHA.out, HHE.out⟩)
          go_wp2_with (fail)
          refine bodyPost_ret (v := .bool true) (by simp [results, Try.results20, go_sem]) rfl ⟨by rw [HR.out], hbw⟩
end Go.Proofs.Ytijgfdncocjncaa
