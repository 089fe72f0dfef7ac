/- The document's Fewest. -/
import Derived.Test.YtijgfdncocjncaaD13
namespace Go.Proofs.Ytijgfdncocjncaa
set_option linter.unusedVariables false
set_option linter.unusedSimpArgs false
open Go Go.RowKit

theorem fewTo_step {x : Wat} {k : Nat} {o : List (Int × Int)} {l : List Nat} (h1 : fewTo x k = some o) (h2 : fewT x k = some l) : fewTo x (k + 1) = some (o ++ lnk k l) := by
  unfold fewTo
  rw [h1, h2]
theorem fewTo_stop {x : Wat} {k : Nat} (h2 : fewT x k = none) : fewTo x (k + 1) = none := by
  unfold fewTo
  rw [h2]
  cases fewTo x k <;> rfl
theorem lnk_take {t k : Nat} {l : List Nat} (h : k < l.length) : lnk t (l.take (k + 1)) = lnk t (l.take k) ++ [(((l[k] : Nat) : Int), (t : Int))] := by
  rw [List.take_succ_eq_append_getElem h]
  unfold lnk
  rw [List.map_append]
  rfl
theorem lnk_row {t k : Nat} {l : List Nat} {o : List (Int × Int)} (h : k < l.length) : flat2 (o ++ lnk t (l.take (k + 1))) = flat2 (o ++ lnk t (l.take k)) ++ [I (l[k] : Nat), I t] := by
  rw [lnk_take h, ← List.append_assoc, flat2_app (o ++ _)]
  simp [flat2]
theorem lnk_row_len {t k : Nat} {l : List Nat} {o : List (Int × Int)} (h : k ≤ l.length) : (o ++ lnk t (l.take k)).length = o.length + k := by
  rw [List.length_append, lnk_len, List.length_take]
  omega
theorem fewT_len {x : Wat} {t : Nat} {l : List Nat} (h : fewT x t = some l) : l.length ≤ x.n := Nat.le_trans (fewT_sub h).length_le (srcs_len x t)
set_option maxRecDepth 100000 in
set_option maxHeartbeats 8000000 in
theorem fewest16 (x : Wat) (A B : Option Addr) (c d : Nat) (w : World) (h64 : Wat64 x) (hW : WatAt w x A B) :
    Calls Try.prog 16 #[x.val A c B d] w fun e w' => ∃ A' c', e = .returned (.tuple #[.slice A' (fewR x).1.length c', I (fewR x).2]) ∧ Twos w' w'.heap.size A' (fewR x).1 ∧ Below w.heap.size w w' := by
  have H20 : Hid (∀ W, Below w.heap.size w W → Calls Try.prog 20 #[x.val A c B d] W fun e w' => e = .returned (.bool (watB x)) ∧ Below W.heap.size W w') := Lib.hid fun W h => watch20 x A B c d W h64 (hW.below h)
  have HB0 : Hid (Below w.heap.size w (w.alloc (.cells #[.slice A x.hb.length c, .slice B x.er.length d, I x.en] 25))) := Lib.hid (by (repeat' (first | assumption | exact Below.refl _ _ | refine Below.drew ?_ | refine below_drewN ?_ _ | refine Below.setCell ?_ (by first | omega | (simp; done) | (simp; omega)) _ | refine Below.alloc ?_ (by first | omega | (simp; done) | (simp; omega)) _ | refine Below.trans ?_ (Below.mono (by assumption) (by first | omega | (simp; done) | (simp; omega))))))
  have HX0 : Hid (Box (w.alloc (.cells #[.slice A x.hb.length c, .slice B x.er.length d, I x.en] 25)) w.heap.size [.slice A x.hb.length c, .slice B x.er.length d, I x.en]) := Lib.hid (Box.new w [.slice A x.hb.length c, .slice B x.er.length d, I x.en] 25)
  have HZ0 : Hid ((w.alloc (.cells #[.slice A x.hb.length c, .slice B x.er.length d, I x.en] 25)).heap.size = w.heap.size + 1) := Lib.hid (by simp)
  cases hwb : watB x
  · have HR : Hid (fewR x = ([], 1)) := Lib.hid (by unfold fewR; rw [hwb]; rfl)
    rw [hwb] at H20
    unfold Wat.val at H20 ⊢
    go_enter Try.func16, Try.ntmps16
    go_wp2_with (first | (go_at_call 20; refine (H20.out _ HB0.out).mono ?_; rintro e w1 ⟨rfl, hB1⟩) | fail)
    refine bodyPost_ret (v := .tuple #[.slice none 0 0, I 1]) (by simp [results, Try.results16, go_sem]) rfl ⟨none, 0, by rw [HR.out]; rfl, by rw [HR.out]; exact fun h => absurd h (by simp), HB0.out.trans (hB1.mono (by simp))⟩
  · have hx := watB_iff.1 hwb
    have hn6 : x.hb.length ≤ 6 := hx.n6
    have HR : Hid (∀ o, fewTo x x.hb.length = some o → fewR x = (o, 0)) := Lib.hid fun o h => by unfold fewR; rw [hwb, show x.n = x.hb.length from rfl, h]; rfl
    have HN : Hid (∀ k, k < x.hb.length → fewT x k = none → fewR x = ([], 4)) := Lib.hid fun k hk h => by unfold fewR; rw [hwb, show x.n = x.hb.length from rfl, fewTo_none x (fewTo_stop h) _ hk]; rfl
    have H40 : Hid (∀ k, k < x.hb.length → ∀ W, Below w.heap.size w W → Calls Try.prog 40 #[x.val A c B d, I k] W fun e w' => ∃ A' c', e = .returned (.tuple #[.slice A' ((fewT x k).getD []).length c', .bool (fewT x k).isSome]) ∧ w'.ownsRow 0 3 1 (.slice A' ((fewT x k).getD []).length c') ((fewT x k).getD []).length (natI ((fewT x k).getD [])) ∧ Below W.heap.size W w') := Lib.hid fun k hk W h => fewest40 x A B c d k W hx (hW.below h) hk
    have HST := Lib.hid fun k o l => @fewTo_step x k o l
    have HLN := Lib.hid fun k l (h : fewT x k = some l) => Nat.le_trans (fewT_len h) (show x.n ≤ 6 from hn6)
    obtain ⟨i0, hi0, hi1, hi2, hi3⟩ := info_parts info27
    rw [hwb] at H20
    clear hx hW h64
    unfold Wat.val at H20 H40 ⊢
    obtain ⟨en, hen2⟩ : ∃ en, x.en = en := ⟨_, rfl⟩
    rw [hen2] at H20 H40 HB0 HX0 HZ0 ⊢
    clear hen2
    go_enter Try.func16, Try.ntmps16
    go_wp2_with (first
      | (go_at_call 20; generalize (w.alloc (.cells #[.slice A x.hb.length c, .slice B x.er.length d, I en] 25)) = wa at *; refine (H20.out _ HB0.out).mono ?_; rintro e w1 ⟨rfl, hB1⟩)
      | fail)
    have hza := HZ0.out
    have hz1 := hB1.size
    have HB1 : Hid (Below w.heap.size w w1) := Lib.hid (HB0.out.trans (hB1.mono (by omega)))
    have HX1 := Lib.hid (HX0.out.call hB1)
    clear hB1 HB0 HX0
    go_loopw [4, 5] (fun s4 s5 wr => ∃ (k : Nat) (o : List (Int × Int)), k ≤ x.hb.length ∧ s5 = I k ∧ Below w1.heap.size w1 wr ∧ Hid (fewTo x k = some o) ∧ o.length ≤ 6 * k ∧ Hid (wr.ownsRow w1.heap.size 27 2 s4 o.length (flat2 o))) (fun _ s _ => x.hb.length - (intOf s).toNat)
    case atStart => exact ⟨0, [], by omega, rfl, Below.refl _ _, Lib.hid rfl, by simp, Lib.hid (World.ownsRow_nil _ _ _ _)⟩
    case round =>
      obtain ⟨k, o, hk, rfl, hB, HF, hol, HO⟩ := hrel
      have hzr := hB.size
      have hbw := HB1.out.trans (hB.mono (by omega))
      have hbx := HX1.out.call hB
      obtain ⟨c0, _⟩ := hbx.at_ 0 _ rfl
      obtain ⟨c1, _⟩ := hbx.at_ 1 _ rfl
      obtain ⟨c2, _⟩ := hbx.at_ 2 _ rfl
      by_cases hlt : k < x.hb.length
      · have H40k := Lib.hid (H40.out k hlt)
        have p0 : (0 : Int) ≤ (k : Int) := by omega
        have p1 : (k : Int) < (x.hb.length : Int) := by omega
        cases hft : fewT x k with
        | none =>
          have HRR := Lib.hid (HN.out k hlt hft)
          rw [hft] at H40k
          dsimp only [Option.getD, Option.isSome, List.length_nil, List.map_nil] at H40k
          clear hft H40 HO HST HLN
          go_wp2_with (first
            | (go_at_call 40; refine (H40k.out _ hbw).mono ?_; rintro e w3 ⟨A6, c6, rfl, _, hB3⟩)
            | fail)
          refine bodyPost_ret (v := .tuple #[.slice none 0 0, I 4]) (by simp [results, Try.results16, go_sem]) rfl ?_
          have hBF := hbw.trans (hB3.mono hbw.size)
          have hRR := HRR.out
          refine ⟨none, ?_⟩
          first
            | exact ⟨0, by rw [hRR]; rfl, by rw [hRR]; exact fun h => absurd h (by simp), hBF⟩
            | exact ⟨⟨0, by rw [hRR]; rfl⟩, by rw [hRR]; exact fun h => absurd h (by simp), hBF⟩
        | some l =>
          have HST1 := Lib.hid (HST.out k o l HF.out hft)
          have hll := HLN.out k l hft
          rw [hft] at H40k
          dsimp only [Option.getD, Option.isSome] at H40k
          clear hft H40
          go_wp2_with (first
            | (go_at_call 40; refine (H40k.out _ hbw).mono ?_; rintro e w3 ⟨A6, c6, rfl, hI6, hB3⟩)
            | fail)
          have hz3 := hB3.size
          have HB3 : Hid (Below w1.heap.size w1 w3) := Lib.hid (hB.trans (hB3.mono hzr))
          have HO3 := Lib.hid (grown_own HO.out hB3)
          have HI6 := Lib.hid hI6
          clear HO hB3 hI6 c0 c1 c2 hbx H40k
          go_loopw [4, 8] (fun s4 s8 wi => ∃ j : Nat, j ≤ l.length ∧ s8 = I j ∧ Below w1.heap.size w1 wi ∧ Hid (wi.ownsRow 0 3 1 (.slice A6 l.length c6) l.length (natI l)) ∧ Hid (wi.ownsRow w1.heap.size 27 2 s4 (o.length + j) (flat2 (o ++ lnk k (l.take j))))) (fun _ s _ => l.length - (intOf s).toNat)
          case atStart => exact ⟨0, by omega, rfl, HB3.out, HI6, Lib.hid (by simpa [lnk] using HO3.out)⟩
          case round =>
            clear HO3 HB3 HI6
            obtain ⟨j, hj, rfl, hBj, HI, HOj⟩ := hrel
            have hzi := hBj.size
            by_cases hlj : j < l.length
            · obtain ⟨b, off, rfl, hb, hc⟩ := own_ints HI.out (by rw [List.length_map]; omega)
              have d0 := hc j (by rw [List.length_map]; exact hlj)
              rw [List.getElem_map] at d0
              have HRW : Hid (flat2 (o ++ lnk k (l.take (j + 1))) = flat2 (o ++ lnk k (l.take j)) ++ [I (l[j] : Nat), I k]) := Lib.hid (lnk_row hlj)
              generalize l[j] = f at *
              have r0 : (0 : Int) ≤ (j : Int) := by omega
              have r1 : (j : Int) < (l.length : Int) := by omega
              have HOa := Lib.hid (HOj.out.alloc (.cells #[I f, I k] 27))
              have hs4 := HOj.out.lt
              have HCN : Hid (∀ j u, [I f, I k][j]? = some u → (wr.alloc (.cells #[I f, I k] 27)).cell? ((⟨wr.heap.size, 0, none⟩ : Addr).add j) = some u) := Lib.hid fun j u h => cells_new wr [I f, I k] 27 j u h
              have HI7 : Hid ((wr.alloc (.cells #[I f, I k] 27)).ownsRow 0 3 1 (.slice (some ⟨b, off, none⟩) l.length c6) l.length (natI l)) := Lib.hid (HI.out.alloc _)
              clear hc
              go_wp2_with (first
                | (at_builtin; refine wpList_append_own _ rfl _ _ 38 rfl w1.heap.size 27 i0 (.agg #[I 0, I 0]) 2 16 Try.underlying38 hi0 hi1 hi2 hi3 rfl (by decide) _ _ _ rfl HOa.out ⟨wr.heap.size, 0, none⟩ 1 1 [I f, I k] rfl rfl HCN.out (by simp [Value.oneCell']) (by unfold maxLen; omega) (by omega) (by simp; omega) ?_; intro v' w6 hown6 hg6 _)
                | fail)
              have HB6 : Hid (Below w1.heap.size w1 w6) := Lib.hid ((hBj.alloc hzi _).grown hg6 (by simp; omega) (fun g e => (hs4 g e).1))
              have HI8 : Hid (w6.ownsRow 0 3 1 (.slice (some ⟨b, off, none⟩) l.length c6) l.length (natI l)) := Lib.hid (keep_grownE (by decide) HOa.out hg6 HI7.out)
              have HO6 : Hid (w6.ownsRow w1.heap.size 27 2 v' (o.length + (j + 1)) (flat2 (o ++ lnk k (l.take (j + 1))))) := Lib.hid (by rw [HRW.out]; exact hown6)
              clear hown6 hg6
              go_wp2_with (fail)
              go_roundw
              case rel => first | exact ⟨j + 1, by omega, by go_num, HB6.out, HI8, HO6⟩ | ((repeat apply Exists.intro); refine ⟨?_, rfl⟩; exact ⟨j + 1, by omega, by go_num, HB6.out, HI8, HO6⟩)
              case measure => first | (simp [intOf]; done) | (simp [intOf]; omega)
            · obtain rfl : j = l.length := by omega
              have HOE : Hid (wr.ownsRow w1.heap.size 27 2 u4 (o ++ lnk k l).length (flat2 (o ++ lnk k l))) := Lib.hid (by have h := HOj.out; rw [List.take_length] at h; rw [List.length_append, lnk_len]; exact h)
              have hol2 : (o ++ lnk k l).length ≤ 6 * (k + 1) := by rw [List.length_append, lnk_len]; omega
              clear HOj
              go_wp2_with (fail)
              go_roundw
              case rel => first | exact ⟨k + 1, _, by omega, by go_num, hBj, HST1, hol2, HOE⟩ | ((repeat apply Exists.intro); refine ⟨?_, rfl⟩; exact ⟨k + 1, _, by omega, by go_num, hBj, HST1, hol2, HOE⟩)
              case measure => first | (simp [intOf]; done) | (simp [intOf]; omega)
      · obtain rfl : k = x.hb.length := by omega
        obtain ⟨A', c', hv, hT, _⟩ := twos_own HO.out rfl
        subst hv
        have HRF := Lib.hid (HR.out o HF.out)
        have HT := Lib.hid hT
        clear HO hT
        go_wp2_with (fail)
        refine bodyPost_ret (v := .tuple #[.slice A' o.length c', I 0]) (by simp [results, Try.results16, go_sem]) rfl ⟨A', c', by rw [HRF.out], by rw [HRF.out]; exact HT.out, hbw⟩
end Go.Proofs.Ytijgfdncocjncaa
