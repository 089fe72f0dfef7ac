/- GroundTurned: the walk. -/
import Derived.Test.YtilmlgngnbokfaaT5a
import Derived.Test.YtilmlgngnbokfaaEv
import Derived.Test.YtilmlgngnbokfaaG1
namespace Go.Proofs.Ytilmlgngnbokfaa
set_option linter.unusedVariables false
set_option linter.unusedSimpArgs false
open Go.RowKit

set_option maxRecDepth 100000 in
set_option maxHeartbeats 8000000 in
theorem turned_yes (pb poff lb loff : Nat) (cp cl : Nat) (d : Deck) (k : Nat) (y : Int) (w : World) (hp : Ints w w.heap.size (some ⟨pb, poff, none⟩) d.posts) (hl : Ints w w.heap.size (some ⟨lb, loff, none⟩) d.lengths)
    (hy : 0 ≤ y ∧ y ≤ 255) (hd : d.ok 400) (hk : k < d.posts.length) :
    Calls Try.prog 5 #[d.val (some ⟨pb, poff, none⟩) (some ⟨lb, loff, none⟩) cp cl, I k, .int .u8 y] w fun e w' => e = .returned (.bool true) ∧ Below w.heap.size w w' := by
  have hpl : d.posts.length ≤ 24 := hd.2.1
  have hbl : d.lengths.length ≤ 24 := by have := hd.2.2.1; omega
  have hG : ∀ W, Below w.heap.size w W → Calls Try.prog 11 #[.agg #[I 0, I 0, .slice none 0 0], .slice none 0 0, d.val (some ⟨pb, poff, none⟩) (some ⟨lb, loff, none⟩) cp cl] W (RetSome W) := fun W hB =>
    great_any none 0 ⟨0, 0, []⟩ none 0 0 _ _ cp cl d W ((hl.below hB).more hB.size) (by omega)
  have hL : ∀ W, Below w.heap.size w W → Calls Try.prog 14 #[d.val (some ⟨pb, poff, none⟩) (some ⟨lb, loff, none⟩) cp cl, I k] W fun e w' => e = .returned (prV (loadRes d k)) ∧ Below W.heap.size W w' := fun W hB =>
    Load_any _ _ cp cl d k W ((hp.below hB).more hB.size) ((hl.below hB).more hB.size) (by omega) (by omega)
  have hres : ∀ (d' : Deck) (j : Nat), d'.ok 400 → j < d'.posts.length → loadRes d' j = (pres d' j, 0) := fun d' j h1 h2 => by unfold loadRes; rw [if_pos h1, if_pos ⟨by omega, by omega⟩]; simp
  have hD : ∀ W, Below w.heap.size w W → Calls Try.prog 12 #[d.val (some ⟨pb, poff, none⟩) (some ⟨lb, loff, none⟩) cp cl, I 400] W fun e w' => e = .returned (.bool true) ∧ Below W.heap.size W w' := fun W hB =>
    (refDeck_any _ _ cp cl d 400 W ((hp.below hB).more hB.size) ((hl.below hB).more hB.size) (by omega) (by omega) (by omega)).mono fun e w' ⟨b, h1, h2, h3⟩ => ⟨by rw [h1, show b = true from h2.2 hd], h3⟩
  have hT := fun W A c B c' (h1 : Ints W W.heap.size A d.turn.posts) (h2 : Ints W W.heap.size B d.turn.lengths) => Load_any A B c c' d.turn ((d.posts.length - 1 - k : Nat) : Int) W h1 h2 (by simp [Deck.turn]; omega) (by simp [Deck.turn]; omega)
  rw [hres d.turn _ (Deck.turn_ok hd) (by simp [Deck.turn]; omega), pres_turn hd k hk, show ((d.posts.length - 1 - k : Nat) : Int) = (d.posts.length : Int) - 1 - (k : Int) by omega] at hT
  have hz : 1 ≤ 1 + y % 60 ∧ 1 + y % 60 ≤ 200 := by omega
  have hO := fun W A c B c' (h1 : Ints W W.heap.size A (d.wo k (1 + y % 60)).posts) (h2 : Ints W W.heap.size B (d.wo k (1 + y % 60)).lengths) => Load_any A B c c' (d.wo k (1 + y % 60)) k W h1 h2 (show d.posts.length ≤ _ by omega) (by simp [Deck.wo]; omega)
  rw [hres _ k (Deck.wo_ok hd k _ hz) hk, pres_wo hd k hk _ hz] at hO
  rw [hres d k hd hk] at hL
  obtain ⟨o1, o2, o3, _⟩ := hd
  generalize pres d k = pr at *
  obtain ⟨p1, p2⟩ := pr
  simp only [prV] at *
  obtain ⟨ps, ls, own, wt, ap, pe⟩ := d
  simp only [Deck.val, Deck.turn, Deck.wo, List.length_reverse, List.length_map, List.length_range] at *
  obtain ⟨_, _, hAp, hpb, hpc⟩ := hp (by omega)
  cases hAp
  obtain ⟨_, _, hAl, hlb, hlc⟩ := hl (by omega)
  cases hAl
  have HPI := Lib.hid hp
  have HPC := Lib.hid hpc; have HLC := Lib.hid hlc
  have HG := Lib.hid hG; have HL := Lib.hid hL; have HD := Lib.hid hD; have HT := Lib.hid hT; have HO := Lib.hid hO
  obtain ⟨i0, hi0, hi1, hi2, hi3⟩ := info_parts info3
  have hu22 : Try.prog.underlying 22 = some (.slice 3) := Try.underlying22
  have HU := Lib.hid hu22; have HI0 := Lib.hid hi0; have HI1 := Lib.hid hi1; have HI2 := Lib.hid hi2; have HI3 := Lib.hid hi3
  clear hG hL hD hT hO hpc hlc hu22 hi0 hi1 hi2 hi3 hp hl hres
  have hce : ∀ W, Below (w.heap.size + 1) (w.alloc (.cells #[.slice (some ⟨pb, poff, none⟩) ps.length cp, .slice (some ⟨lb, loff, none⟩) ls.length cl, I own, I wt, I ap, I pe] 24)) W →
      (W.cell? ⟨w.heap.size, 0, none⟩ = some (.slice (some ⟨pb, poff, none⟩) ps.length cp) ∧ W.cell? ⟨w.heap.size, 1, none⟩ = some (.slice (some ⟨lb, loff, none⟩) ls.length cl) ∧ W.cell? ⟨w.heap.size, 2, none⟩ = some (I own) ∧ W.cell? ⟨w.heap.size, 3, none⟩ = some (I wt) ∧ W.cell? ⟨w.heap.size, 4, none⟩ = some (I ap) ∧ W.cell? ⟨w.heap.size, 5, none⟩ = some (I pe)) ∧ Below w.heap.size w W ∧ w.heap.size + 1 ≤ W.heap.size := fun W hB => by
    refine ⟨⟨?_, ?_, ?_, ?_, ?_, ?_⟩, ((Below.refl _ w).alloc (Nat.le_refl _) _).trans (hB.mono (by omega)), by have := hB.size; simpa using this⟩
    iterate 6 (rw [hB.cell (p := ⟨w.heap.size, _, none⟩) (by simp)]; simp [go_sem])
  have HCE := Lib.hid hce
  clear hce
  have hk3 : (k : Int) < (ps.length : Int) := by omega
  go_enter Try.func5, Try.ntmps5
  go_wp2_with (first
    | (go_at_call 11; refine (HG.out _ (by (repeat' (first | assumption | exact Below.refl _ _ | refine Below.drew ?_ | refine below_drewN ?_ _ | refine Below.setCell ?_ (by first | omega | (simp; done) | (simp; omega)) _ | refine Below.alloc ?_ (by first | omega | (simp; done) | (simp; omega)) _ | refine Below.trans ?_ (Below.mono (by assumption) (by first | omega | (simp; done) | (simp; omega))))))).mono ?_; rintro e w1 ⟨_ | _, rfl, hB1⟩ <;> (have hw1 : Below (w.heap.size + 1) (w.alloc (.cells #[.slice (some ⟨pb, poff, none⟩) ps.length cp, .slice (some ⟨lb, loff, none⟩) ls.length cl, I own, I wt, I ap, I pe] 24)) w1 := (by simpa using hB1); obtain ⟨⟨a1, a2, a3, a4, a5, a6⟩, hqw1, hzw1⟩ := HCE.out w1 hw1; have d1 := (Box.new w [.slice (some ⟨pb, poff, none⟩) ps.length cp, .slice (some ⟨lb, loff, none⟩) ls.length cl, I own, I wt, I ap, I pe] 24).below hw1 (by omega); clear hB1))
    | (go_at_call 14; refine (HL.out w1 hqw1).mono ?_; rintro e w2 ⟨rfl, hB⟩; have d2 := (d1.call hB).alloc (.cells #[I p1, I p2] 33); have hw2 := (hw1.trans (hB.mono hzw1)).alloc (by have := (HCE.out _ (hw1.trans (hB.mono hzw1))).2.2; omega) (.cells #[I p1, I p2] 33); have hx2 := (HCE.out _ (hw1.trans (hB.mono hzw1))).2.2; obtain ⟨⟨b1, b2, b3, b4, b5, b6⟩, hqw2, hzw2⟩ := HCE.out _ hw2; have hbx : Box (w2.alloc (.cells #[I p1, I p2] 33)) w2.heap.size [I p1, I p2] := Box.new w2 [I p1, I p2] 33; clear hB)
    | (go_at_call 12; refine (HD.out _ hqw2).mono ?_; rintro e w3 ⟨rfl, hB⟩; have d3 := d2.call hB; have hw3 := hw2.trans (hB.mono hzw2); have hx3 := hB.size; obtain ⟨⟨c1, c2, c3, c4, c5, c6⟩, hqw3, hzw3⟩ := HCE.out w3 hw3; have hbx3 := hbx.call hB; clear hB hbx)
    | (go_at_call 13; refine (alive_any _).mono ?_; rintro e w8 ⟨rfl, hB8⟩))
  · simp at hx3
    have D3 := Lib.hid d3
    have HBX := Lib.hid hbx3
    clear d1 d2 d3 hbx3
    go_cut [9, 10] (fun s9 s10 wx => ∃ bt bo : Nat, s9 = .pointer (some ⟨bt, 0, none⟩) ∧ s10 = .pointer (some ⟨bo, 0, none⟩) ∧ bt ≠ bo ∧ w3.heap.size ≤ bt ∧ w3.heap.size ≤ bo ∧ Below w3.heap.size w3 wx ∧
      Box wx bt [.slice (some ⟨pb, poff, none⟩) ps.length cp, .slice (some ⟨lb, loff, none⟩) ls.length cl, I own, I wt, I ap, I pe] ∧ Box wx bo [.slice (some ⟨pb, poff, none⟩) ps.length cp, .slice (some ⟨lb, loff, none⟩) ls.length cl, I own, I wt, I ap, I pe])
    case first =>
        have hz0 : w.heap.size < w3.heap.size := by omega
        have B1 := (Box.new w3 [.slice (some ⟨pb, poff, none⟩) ps.length cp, .slice (some ⟨lb, loff, none⟩) ls.length cl, I own, I wt, I ap, I pe] 24).alloc (.cells #[.slice (some ⟨pb, poff, none⟩) ps.length cp, .slice (some ⟨lb, loff, none⟩) ls.length cl, I own, I wt, I ap, I pe] 24)
        have B2 := Box.new (w3.alloc (.cells #[.slice (some ⟨pb, poff, none⟩) ps.length cp, .slice (some ⟨lb, loff, none⟩) ls.length cl, I own, I wt, I ap, I pe] 24)) [.slice (some ⟨pb, poff, none⟩) ps.length cp, .slice (some ⟨lb, loff, none⟩) ls.length cl, I own, I wt, I ap, I pe] 24
        rw [show (w3.alloc (.cells #[.slice (some ⟨pb, poff, none⟩) ps.length cp, .slice (some ⟨lb, loff, none⟩) ls.length cl, I own, I wt, I ap, I pe] 24)).heap.size = w3.heap.size + 1 by simp] at B2
        refine (wpIn_wide (n := 9)).1 ?_
        refine wpIn_region_plan (Plan.ons [0, 1] (.two 2 (Plan.ons [3, 4, 5] .fin) 3 (Plan.ons [2, 4, 5] .fin))) [0, 1]
          (fun W => W.cell? ⟨w.heap.size, 0, none⟩ = some (.slice (some ⟨pb, poff, none⟩) ps.length cp) ∧ W.cell? ⟨w.heap.size, 1, none⟩ = some (.slice (some ⟨lb, loff, none⟩) ls.length cl) ∧ W.cell? ⟨w.heap.size, 2, none⟩ = some (I own) ∧ W.cell? ⟨w.heap.size, 3, none⟩ = some (I wt) ∧ W.cell? ⟨w.heap.size, 4, none⟩ = some (I ap) ∧ W.cell? ⟨w.heap.size, 5, none⟩ = some (I pe))
          [] rfl (by kernel_rfl) (by kernel_rfl) (fun _ d _ _ _ h => by cases d <;> exact h) ⟨c1, c2, c3, c4, c5, c6⟩ ?_
        refine ordQ_held (.agg #[.slice (some ⟨pb, poff, none⟩) ps.length cp, .slice (some ⟨lb, loff, none⟩) ls.length cl, I own, I wt, I ap, I pe]) rfl rfl rfl rfl (fun W' hC' => ?_) (fun K hK => ?_)
        · obtain ⟨q1, q2, q3, q4, q5, q6⟩ := hC'
          go_simp
          try exact ⟨rfl, rfl⟩
        go_simp
        refine hK _ ?_
        clear hK K
        refine ordQ_held (.agg #[.slice (some ⟨pb, poff, none⟩) ps.length cp, .slice (some ⟨lb, loff, none⟩) ls.length cl, I own, I wt, I ap, I pe]) rfl rfl rfl rfl (fun W' hC' => ?_) (fun K hK => ?_)
        · obtain ⟨q1, q2, q3, q4, q5, q6⟩ := hC'
          go_simp
          try exact ⟨rfl, rfl⟩
        go_simp
        refine hK _ ?_
        clear hK K
        refine ordQ_two rfl rfl rfl rfl (fun K hK => ?_) (fun K hK => ?_)
        · gi_wp2
          refine hK _ _ (fun _ => ?_) ?_
          · simp [go_sem, hz0, c1, c2, c3, c4, c5, c6]
          clear hK K
          refine ordQ_hv rfl rfl rfl (fun K hK => ?_)
          gi_wp2
          refine hK _ _ (fun _ => ?_) ?_
          · simp [go_sem, hz0, c1, c2, c3, c4, c5, c6]
          clear hK K
          refine ordQ_hv rfl rfl rfl (fun K hK => ?_)
          gi_wp2
          refine hK _ _ (fun _ => ?_) ?_
          · simp [go_sem, hz0, c1, c2, c3, c4, c5, c6]
          clear hK K
          refine ordQ_hv rfl rfl rfl (fun K hK => ?_)
          gi_wp2
          refine hK _ _ (fun _ => ?_) ?_
          · simp [go_sem, hz0, c1, c2, c3, c4, c5, c6]
          clear hK K
          refine ordQ_fin ?_
          go_wp2_with fail
          go_meet
          exact ⟨w3.heap.size, w3.heap.size + 1, rfl, rfl, by omega, by omega, by omega, by (repeat' (first | assumption | exact Below.refl _ _ | refine Below.drew ?_ | refine below_drewN ?_ _ | refine Below.setCell ?_ (by first | omega | (simp; done) | (simp; omega)) _ | refine Below.alloc ?_ (by first | omega | (simp; done) | (simp; omega)) _ | refine Below.trans ?_ (Below.mono (by assumption) (by first | omega | (simp; done) | (simp; omega))))), B1.drew, B2.drew⟩
        · gi_wp2
          refine hK _ _ (fun _ => ?_) ?_
          · simp [go_sem, hz0, c1, c2, c3, c4, c5, c6]
          clear hK K
          refine ordQ_hv rfl rfl rfl (fun K hK => ?_)
          gi_wp2
          refine hK _ _ (fun _ => ?_) ?_
          · simp [go_sem, hz0, c1, c2, c3, c4, c5, c6]
          clear hK K
          refine ordQ_hv rfl rfl rfl (fun K hK => ?_)
          gi_wp2
          refine hK _ _ (fun _ => ?_) ?_
          · simp [go_sem, hz0, c1, c2, c3, c4, c5, c6]
          clear hK K
          refine ordQ_hv rfl rfl rfl (fun K hK => ?_)
          gi_wp2
          refine hK _ _ (fun _ => ?_) ?_
          · simp [go_sem, hz0, c1, c2, c3, c4, c5, c6]
          clear hK K
          refine ordQ_fin ?_
          go_wp2_with fail
          go_meet
          exact ⟨w3.heap.size + 1, w3.heap.size, rfl, rfl, by omega, by omega, by omega, by (repeat' (first | assumption | exact Below.refl _ _ | refine Below.drew ?_ | refine below_drewN ?_ _ | refine Below.setCell ?_ (by first | omega | (simp; done) | (simp; omega)) _ | refine Below.alloc ?_ (by first | omega | (simp; done) | (simp; omega)) _ | refine Below.trans ?_ (Below.mono (by assumption) (by first | omega | (simp; done) | (simp; omega))))), B2.drew, B1.drew⟩
    case rest =>
      obtain ⟨bt, bo, rfl, rfl, hne, hbt, hbo, hcx, hX1, hX2⟩ := hcut
      have D4 := D3.out.call hcx
      have P4 := HBX.out.call hcx
      have hlow4 := hqw3.trans (hcx.mono hqw3.size)
      have hz4 := hcx.size
      have hz5 : w.heap.size < wc.heap.size := by omega
      have hcc := (D4.at_ 1 _ rfl).1
      have hmade := World.ownsRow_made (base := wc.heap.size) (e := 3) (size := 1) wc #[] 0 (Nat.le_refl _) (Nat.zero_le _) (by simp)
      have HMADE := Lib.hid hmade
      have hnews : ∀ j u, (ls.map I)[j]? = some u → (wc.alloc (.cells #[] 3)).cell? ((⟨lb, loff, none⟩ : Addr).add j) = some u := fun j u hj => by
        obtain ⟨hjl, rfl⟩ := List.getElem?_eq_some_iff.1 hj
        have hjl' : j < ls.length := by simpa using hjl
        rw [List.getElem_map]
        have := (hlow4.cell (p := ⟨lb, loff + j, none⟩) hlb).trans (HLC.out j hjl')
        refine Lib.cell?_alloc_some _ ?_
        rw [← this]
        congr 1
        unfold Addr.add
        split <;> simp_all
      have HNEWS := Lib.hid hnews
      have D4H := Lib.hid D4; have P4H := Lib.hid P4; have X1H := Lib.hid hX1; have X2H := Lib.hid hX2
      clear hmade hnews D4 P4 hX1 hX2 c1 c2 c3 c4 c5 c6 b1 b2 b3 b4 b5 b6 a1 a2 a3 a4 a5 a6 hw2 hw3
      go_wp2_with (at_builtin; refine wpList_append_own _ rfl _ _ 22 rfl wc.heap.size 3 i0 (.int .i64 0) 1 8 HU.out HI0.out HI1.out HI2.out HI3.out rfl (by decide) _ _ _ rfl HMADE.out ⟨lb, loff, none⟩ ls.length cl (ls.map I) rfl (by simp) HNEWS.out (fun u hu => by obtain ⟨s, _, rfl⟩ := List.mem_map.1 hu; rfl) (by simp [maxLen]; omega) (by omega) (by simp) ?_; intro olv w9 hown hgrow hnil; have hb9 : Below wc.heap.size wc w9 := ((Below.refl _ wc).alloc (Nat.le_refl _) _).grown hgrow (by simp) (fun k hk => (HMADE.out.lt k hk).1); have hown9 : w9.ownsRow wc.heap.size 3 1 olv ls.length (ls.map I) := (by simpa using hown); obtain ⟨go, ocap, rfl, hg1, hg2, hg3, hg4⟩ : ∃ go ocap, olv = .slice (some ⟨go, 0, none⟩) ls.length ocap ∧ wc.heap.size ≤ go ∧ go < w9.heap.size ∧ ls.length ≤ ocap ∧ ocap ≤ 9223372036854775807 := (by rcases own_form hown9 with ⟨_, h⟩ | h; (exfalso; omega); exact h); have HO9 := Lib.hid hown9; have X1 := X1H.out.call hb9; have X2 := X2H.out.call hb9; obtain ⟨e1, e2⟩ := X1.at_ 0 _ rfl; obtain ⟨e3, e4⟩ := X1.at_ 1 _ rfl; obtain ⟨e5, e6⟩ := X2.at_ 1 _ rfl; obtain ⟨e7, e8⟩ := ((D4H.out.call hb9)).at_ 0 _ rfl; clear hown hgrow hnil hown9)
      have P9 := P4H.out.call hb9
      have S0 : Turn w (((w9.setCell ⟨bt, 0, none⟩ (.slice none 0 0)).setCell ⟨bt, 1, none⟩ (.slice none 0 0)).setCell ⟨bo, 1, none⟩ (.slice (some ⟨go, 0, none⟩) ls.length ocap)) w2.heap.size bt bo wc.heap.size w9.heap.size w9.heap.size p1 p2 [.slice (some ⟨pb, poff, none⟩) ps.length cp, .slice (some ⟨lb, loff, none⟩) ls.length cl, I own, I wt, I ap, I pe] (.slice none 0 0) (.slice none 0 0) (.slice (some ⟨go, 0, none⟩) ls.length ocap) own wt ap pe (.slice (some ⟨pb, poff, none⟩) ps.length cp) [] [] ls := by
        have h0 := (D4H.out.call hb9).1
        refine ⟨(((hlow4.trans (hb9.mono (by omega))).setCell (by simp; omega) _).setCell (by simp; omega) _).setCell (by simp; omega) _,
          (((D4H.out.call hb9).far (by simp; omega) _).far (by simp; omega) _).far (by simp; omega) _, ((P9.far (by simp; omega) _).far (by simp; omega) _).far (by simp; omega) _,
          ((X1.set 0 _).set 1 _).far (by simp; omega) _, ((X2.far (by simp; omega) _).far (by simp; omega) _).set 1 _,
          own_far (own_far (own_far HO9.out (show bt < _ from X1H.out.1)) (show bt < _ from X1H.out.1)) (show bo < _ from X2H.out.1), World.ownsRow_nil _ _ _ _, World.ownsRow_nil _ _ _ _,
          ⟨by omega, by omega, by omega, by omega⟩, ⟨P4H.out.1, X1H.out.1, X2H.out.1⟩, ⟨hb9.size, Nat.le_refl _, by simp⟩, ⟨by omega, by omega, by omega⟩, fun g hg => ?_⟩
        have : g = go := by simpa [Value.ownBlock] using hg.symm
        omega
      have HS0 := Lib.hid S0
      have hdl := (S0.D0.at_ 0 _ rfl).1
      clear S0 P9 X1 X2 e1 e2 e3 e4 e5 e6 e7 e8
      go_wp2
      go_loopw [11, 61] (fun s11 s61 wr => ∃ (k1 : Nat) (tp : Value), k1 ≤ ps.length ∧ s61 = I k1 ∧ Hid (Turn w wr w2.heap.size bt bo wc.heap.size w9.heap.size w9.heap.size p1 p2 [.slice (some ⟨pb, poff, none⟩) ps.length cp, .slice (some ⟨lb, loff, none⟩) ls.length cl, I own, I wt, I ap, I pe] tp (.slice none 0 0) (.slice (some ⟨go, 0, none⟩) ls.length ocap) own wt ap pe (.slice (some ⟨pb, poff, none⟩) ps.length cp) (ps.reverse.take k1) [] ls)) (fun _ s61 _ => ps.length - (intOf s61).toNat)
      case atStart => exact ⟨0, .slice none 0 0, by omega, rfl, HS0⟩
      case round =>
        obtain ⟨k1, tp, hk1, rfl, HS1⟩ := hrel
        have hS := HS1.out
        by_cases hlt : k1 < ps.length
        · clear HS1
          obtain ⟨j, hj⟩ : ∃ j : Nat, j + k1 + 1 = ps.length := ⟨ps.length - k1 - 1, by omega⟩
          have hjl : j < ps.length := by omega
          have hsrc := (hS.low.cell (p := ⟨pb, _, none⟩) hpb).trans (HPC.out j hjl)
          have hget : ps.reverse.take (k1 + 1) = ps.reverse.take k1 ++ [ps[j]] := by
            rw [List.take_succ_eq_append_getElem (by simp; omega)]
            congr 2
            rw [List.getElem_reverse]
            congr 1
            omega
          generalize ps[j] = z at hsrc hget
          have HGET := Lib.hid hget
          have wA : IntKind.i64.wrap ((ps.length : Int) - 1) = (ps.length : Int) - 1 := IntWalk.i64_in _ (by omega)
          have wB : IntKind.i64.wrap ((ps.length : Int) - 1 - (k1 : Int)) = (j : Int) := by rw [show (ps.length : Int) - 1 - (k1 : Int) = (j : Int) by omega]; exact IntWalk.i64_in _ (by omega)
          have hjI : (j : Int) < (ps.length : Int) := by omega
          have hdc := (hS.D0.at_ 0 _ rfl).1
          have htc := (hS.DT.at_ 0 _ rfl).1
          have HS := Lib.hid hS
          have hrl : (ps.reverse.take k1).length = k1 := by simp; omega
          have HRL := Lib.hid hrl
          clear hget hS hj hrl
          go_wp2
          refine (wpIn_wide (n := 9)).1 ?_
          refine wpIn_region_plan (Plan.ons [0, 1, 2, 3, 4, 5, 6, 7, 8, 9, 10, 11, 12, 13, 14, 15] .fin) [0, 1]
            (fun W' => W'.cell? ⟨bt, 0, none⟩ = some (tp)) [15] rfl (by kernel_rfl) (by kernel_rfl) (fun _ d _ _ _ h => by cases d <;> exact h) htc ?_
          (refine ordQ_held (.pointer (some ⟨bt, 0, none⟩)) rfl rfl rfl rfl (fun W' hC' => ?_) (fun K hK => ?_); (focus (obtain p1 := hC'; go_simp; try exact ⟨rfl, rfl⟩)); go_simp; refine hK _ ?_; clear hK K)
          (refine ordQ_held (tp) rfl rfl rfl rfl (fun W' hC' => ?_) (fun K hK => ?_); (focus (obtain p1 := hC'; go_simp; try exact ⟨rfl, rfl⟩)); go_simp; refine hK _ ?_; clear hK K)
          iterate 10 (refine ordQ_li rfl rfl rfl (fun K hK => ?_); go_simp; refine hK _ ?_; clear hK K)
          refine ordQ_hv rfl rfl rfl (fun K hK => ?_)
          gi_wp2
          have S1 := (HS.out.alloc (.cells #[I z] 3)).drew
          refine hK _ _ (fun _ => (S1.DT.at_ 0 _ rfl).1) ?_
          clear hK K
          refine ordQ_hv rfl rfl rfl (fun K hK => ?_)
          refine opIn_append_own rfl _ _ _ 22 rfl w9.heap.size 3 i0 (.int .i64 0) 1 8 HU.out HI0.out HI1.out HI2.out HI3.out rfl (by decide) _ _ _ rfl S1.T ⟨wr.heap.size, 0, none⟩ 1 1 [I z] rfl rfl (fun j u hj => new1 wr (I z) 3 j u hj) (fun u hu => by simp at hu; subst hu; rfl) (by rw [HRL.out]; simp [maxLen]; omega) (by rw [HRL.out]; omega) (by have := S1.z3; omega) ?_
          intro v' w5 hown hgrow _
          obtain ⟨g', cap', rfl⟩ : ∃ g' cap', v' = .slice (some ⟨g', 0, none⟩) (k1 + 1) cap' := by
            have h2 := hown
            rw [HRL.out] at h2
            rcases own_form h2 with ⟨_, h⟩ | ⟨g', cap', h, _⟩
            · omega
            · exact ⟨g', cap', h⟩
          have S2 := S1.post  (z := z) hown hgrow
          have hrow : (tp).ownBlock ≠ some bt := fun e => by have h1 := (S1.T.lt bt e).1; have h2 := S1.z2; have h3 := S1.z3; omega
          obtain ⟨k1c, k1f⟩ := (S1.DT.grown hgrow hrow).at_ 0 _ rfl
          have S2H := Lib.hid S2
          clear S1 S2 hown hgrow hrow
          refine hK _ _ (fun _ => k1c) ?_
          clear hK K
          (refine ordQ_li rfl rfl rfl (fun K hK => ?_); go_simp; refine hK _ ?_; clear hK K)
          refine ordQ_hv rfl rfl rfl (fun K hK => ?_)
          gi_wp2
          refine hK _ _ (fun h => by cases h) ?_
          clear hK K
          refine ordQ_fin ?_
          clear k1c k1f hsrc hdc htc wA wB
          go_wp2
          go_roundw
          case rel => exact ⟨k1 + 1, _, by omega, by go_num, by rw [HGET.out]; exact S2H⟩
          case measure => simp [intOf]; omega
        · obtain rfl : k1 = ps.length := by omega
          have hTf := hS.T.lt
          have hSz := hS.z3
          rw [List.take_of_length_le (by simp)] at hS
          obtain ⟨tg, tc, rfl, ht1, ht2, ht3, ht4⟩ : ∃ tg tc, tp = .slice (some ⟨tg, 0, none⟩) ps.length tc ∧ w9.heap.size ≤ tg ∧ tg < wr.heap.size ∧ ps.length ≤ tc ∧ tc ≤ 9223372036854775807 := by
            rcases own_form hS.T with ⟨_, h⟩ | ⟨g, c, h1, h2, h3, h4, h5⟩
            · rw [List.length_reverse] at h; omega
            · exact ⟨g, c, by simpa using h1, h2, h3, by simpa using h4, h5⟩
          have hdc := (hS.D0.at_ 1 _ rfl).1
          have S3 : Turn w wr w2.heap.size bt bo wc.heap.size w9.heap.size wr.heap.size p1 p2 [.slice (some ⟨pb, poff, none⟩) ps.length cp, .slice (some ⟨lb, loff, none⟩) ls.length cl, I own, I wt, I ap, I pe] (.slice (some ⟨tg, 0, none⟩) ps.length tc) (.slice none 0 0) (.slice (some ⟨go, 0, none⟩) ls.length ocap) own wt ap pe (.slice (some ⟨pb, poff, none⟩) ps.length cp) ps.reverse [] ls := { hS with L := World.ownsRow_nil _ _ _ _, z3 := ⟨hSz.1, by omega, Nat.le_refl _⟩ }
          have HS3 := Lib.hid S3
          clear hS HS1 S3 hTf
          go_wp2
          obtain ⟨wl, rfl⟩ : ∃ wl : World, wl = wr := ⟨_, rfl⟩
          go_loopw [12, 83] (fun s12 s83 wr => ∃ (k2 : Nat) (tl : Value), k2 ≤ ls.length ∧ s83 = I k2 ∧ Hid (Turn w wr w2.heap.size bt bo wc.heap.size w9.heap.size wl.heap.size p1 p2 [.slice (some ⟨pb, poff, none⟩) ps.length cp, .slice (some ⟨lb, loff, none⟩) ls.length cl, I own, I wt, I ap, I pe] (.slice (some ⟨tg, 0, none⟩) ps.length tc) tl (.slice (some ⟨go, 0, none⟩) ls.length ocap) own wt ap pe (.slice (some ⟨pb, poff, none⟩) ps.length cp) ps.reverse (ls.reverse.take k2) (wol ls k (1 + y % 60) k2))) (fun _ s83 _ => ls.length - (intOf s83).toNat)
          case atStart => exact ⟨0, .slice none 0 0, by omega, rfl, by rw [wol_zero]; exact HS3⟩
          case round =>
            obtain ⟨k2, tl, hk2, rfl, HS4⟩ := hrel
            have hS := HS4.out
            by_cases hlt2 : k2 < ls.length
            · clear HS4
              obtain ⟨j, hj⟩ : ∃ j : Nat, j + k2 + 1 = ls.length := ⟨ls.length - k2 - 1, by omega⟩
              have hjl : j < ls.length := by omega
              have hsrc := (hS.low.cell (p := ⟨lb, _, none⟩) hlb).trans (HLC.out j hjl)
              have hget : ls.reverse.take (k2 + 1) = ls.reverse.take k2 ++ [ls[j]] := by
                rw [List.take_succ_eq_append_getElem (by simp; omega)]
                congr 2
                rw [List.getElem_reverse]
                congr 1
                omega
              generalize ls[j] = z at hsrc hget
              have HGET := Lib.hid hget
              have wA : IntKind.i64.wrap ((ls.length : Int) - 1) = (ls.length : Int) - 1 := IntWalk.i64_in _ (by omega)
              have wB : IntKind.i64.wrap ((ls.length : Int) - 1 - (k2 : Int)) = (j : Int) := by rw [show (ls.length : Int) - 1 - (k2 : Int) = (j : Int) by omega]; exact IntWalk.i64_in _ (by omega)
              have hjI : (j : Int) < (ls.length : Int) := by omega
              have hdc := (hS.D0.at_ 1 _ rfl).1
              have htc := (hS.DT.at_ 1 _ rfl).1
              have HS := Lib.hid hS
              have hrl : (ls.reverse.take k2).length = k2 := by simp; omega
              have HRL := Lib.hid hrl
              clear hget hS hj hrl
              go_wp2
              refine (wpIn_wide (n := 9)).1 ?_
              refine wpIn_region_plan (Plan.ons [0, 1, 2, 3, 4, 5, 6, 7, 8, 9, 10, 11, 12, 13, 14, 15] .fin) [0, 1]
                (fun W' => W'.cell? ⟨bt, 1, none⟩ = some (tl)) [15] rfl (by kernel_rfl) (by kernel_rfl) (fun _ d _ _ _ h => by cases d <;> exact h) htc ?_
              (refine ordQ_held (.pointer (some ⟨bt, 1, none⟩)) rfl rfl rfl rfl (fun W' hC' => ?_) (fun K hK => ?_); (focus (obtain p1 := hC'; go_simp; try exact ⟨rfl, rfl⟩)); go_simp; refine hK _ ?_; clear hK K)
              (refine ordQ_held (tl) rfl rfl rfl rfl (fun W' hC' => ?_) (fun K hK => ?_); (focus (obtain p1 := hC'; go_simp; try exact ⟨rfl, rfl⟩)); go_simp; refine hK _ ?_; clear hK K)
              iterate 10 (refine ordQ_li rfl rfl rfl (fun K hK => ?_); go_simp; refine hK _ ?_; clear hK K)
              refine ordQ_hv rfl rfl rfl (fun K hK => ?_)
              gi_wp2
              have S1 := (HS.out.alloc (.cells #[I z] 3)).drew
              refine hK _ _ (fun _ => (S1.DT.at_ 1 _ rfl).1) ?_
              clear hK K
              refine ordQ_hv rfl rfl rfl (fun K hK => ?_)
              refine opIn_append_own rfl _ _ _ 22 rfl wl.heap.size 3 i0 (.int .i64 0) 1 8 HU.out HI0.out HI1.out HI2.out HI3.out rfl (by decide) _ _ _ rfl S1.L ⟨wr.heap.size, 0, none⟩ 1 1 [I z] rfl rfl (fun j u hj => new1 wr (I z) 3 j u hj) (fun u hu => by simp at hu; subst hu; rfl) (by rw [HRL.out]; simp [maxLen]; omega) (by rw [HRL.out]; omega) (by have := S1.z3; omega) ?_
              intro v' w5 hown hgrow _
              obtain ⟨g', cap', rfl⟩ : ∃ g' cap', v' = .slice (some ⟨g', 0, none⟩) (k2 + 1) cap' := by
                have h2 := hown
                rw [HRL.out] at h2
                rcases own_form h2 with ⟨_, h⟩ | ⟨g', cap', h, _⟩
                · omega
                · exact ⟨g', cap', h⟩
              have S2 := S1.beam (fun g hg => by simp [Value.ownBlock] at hg; omega) (z := z) hown hgrow
              have hrow : (tl).ownBlock ≠ some bt := fun e => by have h1 := (S1.L.lt bt e).1; have h2 := S1.z2; have h3 := S1.z3; omega
              obtain ⟨k1c, k1f⟩ := (S1.DT.grown hgrow hrow).at_ 1 _ rfl
              have S2H := Lib.hid S2
              clear S1 S2 hown hgrow hrow
              refine hK _ _ (fun _ => k1c) ?_
              clear hK K
              (refine ordQ_li rfl rfl rfl (fun K hK => ?_); go_simp; refine hK _ ?_; clear hK K)
              refine ordQ_hv rfl rfl rfl (fun K hK => ?_)
              gi_wp2
              refine hK _ _ (fun h => by cases h) ?_
              clear hK K
              refine ordQ_fin ?_
              clear k1c k1f hsrc hdc htc wA wB
              have S2 := S2H.out
              have hdo := (S2.DO.at_ 1 _ rfl).1
              have hO2 := S2.O
              rw [wol_length] at hO2
              have hog := hO2.cellAt k2 (by omega)
              have hof := hO2.frozenAt k2
              clear hO2
              have hoc : ∃ u, (w5.setCell ⟨bt, 1, none⟩ (.slice (some ⟨g', 0, none⟩) (k2 + 1) cap')).cell? ⟨go, k2, none⟩ = some u := ⟨_, hog.trans (List.getElem?_eq_getElem (by simp [wol_length]; omega))⟩
              obtain ⟨u, hou⟩ := hoc
              have hk2I : (k2 : Int) < (ls.length : Int) := by omega
              clear S2 hog
              by_cases hcond : (k2 : Int) ≠ (k : Int) ∧ (k2 : Int) ≠ (k : Int) - 1
              · have S5 := S2H.out.other (wol_length _ _ _ _).symm k2 (1 + y % 60)
                rw [wol_set hcond, ← HGET.out] at S5
                have HS5 := Lib.hid S5
                obtain ⟨n1, n2⟩ := hcond
                have n3 : ((k2 : Int) == (k : Int)) = false := by simpa using n1
                have n4 : ((k2 : Int) == (k : Int) - 1) = false := by simpa using n2
                clear S5
                go_wp2
                all_goals first
                  | (exfalso; omega)
                  | (exfalso; clear HS5 HGET HRL; simp_all; done)
                  | (go_roundw
                     case rel => exact ⟨k2 + 1, _, by omega, by go_num, HS5⟩
                     case measure => simp [intOf]; omega)
              · have S5 := S2H.out
                rw [wol_skip hcond, ← HGET.out] at S5
                have HS5 := Lib.hid S5
                rcases (show (k2 : Int) = (k : Int) ∨ ((k2 : Int) ≠ (k : Int) ∧ (k2 : Int) = (k : Int) - 1) by omega) with n1 | ⟨n1, n2⟩
                all_goals
                  clear S5 hcond
                  go_wp2
                  first
                  | exact ⟨⟨k2 + 1, _, by omega, by go_num, HS5⟩, by simp [intOf]; omega⟩
                  | (go_roundw
                     case rel => exact ⟨k2 + 1, _, by omega, by go_num, HS5⟩
                     case measure => simp [intOf]; omega)
            · obtain rfl : k2 = ls.length := by omega
              rw [List.take_of_length_le (by simp), wol_all] at hS
              obtain ⟨lg, lc, rfl⟩ : ∃ lg lc, tl = .slice (some ⟨lg, 0, none⟩) ls.length lc := by
                rcases own_form hS.L with ⟨_, h⟩ | ⟨g, c, h1, _⟩
                · rw [List.length_reverse] at h; omega
                · exact ⟨g, c, by simpa using h1⟩
              have hT2 := hS.T
              have hL2 := hS.L
              have hO2 := hS.O
              rw [List.length_reverse] at hT2 hL2
              rw [List.length_map, List.length_range] at hO2
              have i1 := ints_of_own hT2 (by simp)
              have i2 := ints_of_own hL2 (by simp)
              have i3 := ints_of_own hO2 (by simp)
              have hpi := (HPI.out.below hS.low).more hS.low.size
              have q1 := HT.out wr _ tc _ lc i1 i2
              have HQ1 := Lib.hid q1
              have I3 := Lib.hid i3
              have HPI2 := Lib.hid hpi
              obtain ⟨t0, t1, t2, t3, t4, t5⟩ : wr.cell? ⟨bt, 0, none⟩ = some (.slice (some ⟨tg, 0, none⟩) ps.length tc) ∧ wr.cell? ⟨bt, 1, none⟩ = some (.slice (some ⟨lg, 0, none⟩) ls.length lc) ∧ wr.cell? ⟨bt, 2, none⟩ = some (I own) ∧ wr.cell? ⟨bt, 3, none⟩ = some (I wt) ∧ wr.cell? ⟨bt, 4, none⟩ = some (I ap) ∧ wr.cell? ⟨bt, 5, none⟩ = some (I pe) :=
                ⟨(hS.DT.at_ 0 _ rfl).1, (hS.DT.at_ 1 _ rfl).1, (hS.DT.at_ 2 _ rfl).1, (hS.DT.at_ 3 _ rfl).1, (hS.DT.at_ 4 _ rfl).1, (hS.DT.at_ 5 _ rfl).1⟩
              have d0 := (hS.D0.at_ 0 _ rfl).1
              have wA : IntKind.i64.wrap ((ps.length : Int) - 1) = (ps.length : Int) - 1 := IntWalk.i64_in _ (by omega)
              have wB : IntKind.i64.wrap ((ps.length : Int) - 1 - (k : Int)) = (ps.length : Int) - 1 - (k : Int) := IntWalk.i64_in _ (by omega)
              clear hT2 hL2 hO2 i1 i2 i3 hpi q1
              have HS6 := Lib.hid hS
              clear hS HS4
              have tok1 : True := trivial
              go_wp2_with (first
                | (go_at_call 14; have _t := tok1; refine HQ1.out.mono ?_; rintro e w6 ⟨rfl, hB6⟩; clear tok1; have hh6 := hB6.alloc hB6.size (.cells #[I p1, I p2] 33); have S7 := HS6.out.call hh6; obtain ⟨o0', o1', o2', o3', o4', o5'⟩ : (w6.alloc (.cells #[I p1, I p2] 33)).cell? ⟨bo, 0, none⟩ = some (.slice (some ⟨pb, poff, none⟩) ps.length cp) ∧ (w6.alloc (.cells #[I p1, I p2] 33)).cell? ⟨bo, 1, none⟩ = some (.slice (some ⟨go, 0, none⟩) ls.length ocap) ∧ (w6.alloc (.cells #[I p1, I p2] 33)).cell? ⟨bo, 2, none⟩ = some (I own) ∧ (w6.alloc (.cells #[I p1, I p2] 33)).cell? ⟨bo, 3, none⟩ = some (I wt) ∧ (w6.alloc (.cells #[I p1, I p2] 33)).cell? ⟨bo, 4, none⟩ = some (I ap) ∧ (w6.alloc (.cells #[I p1, I p2] 33)).cell? ⟨bo, 5, none⟩ = some (I pe) := ⟨(S7.DO.at_ 0 _ rfl).1, (S7.DO.at_ 1 _ rfl).1, (S7.DO.at_ 2 _ rfl).1, (S7.DO.at_ 3 _ rfl).1, (S7.DO.at_ 4 _ rfl).1, (S7.DO.at_ 5 _ rfl).1⟩; have q2 := HO.out (w6.alloc (.cells #[I p1, I p2] 33)) _ cp _ ocap ((HPI2.out.below hh6).more hh6.size) ((I3.out.below hh6).more hh6.size); have HQ2 := Lib.hid q2; have HS7 := Lib.hid S7; clear q2 S7)
                | (go_at_call 14; refine HQ2.out.mono ?_; rintro e w7 ⟨rfl, hB7⟩; have hh7 := hB7.alloc hB7.size (.cells #[I p1, I p2] 33); have S9 := HS7.out.call hh7; obtain ⟨p0', p1'⟩ : (w7.alloc (.cells #[I p1, I p2] 33)).cell? ⟨w2.heap.size, 0, none⟩ = some (I p1) ∧ (w7.alloc (.cells #[I p1, I p2] 33)).cell? ⟨w2.heap.size, 1, none⟩ = some (I p2) := ⟨(S9.DP.at_ 0 _ rfl).1, (S9.DP.at_ 1 _ rfl).1⟩; have hb6 := (Box.new w6 [I p1, I p2] 33).call hh7; obtain ⟨r0, r1⟩ : (w7.alloc (.cells #[I p1, I p2] 33)).cell? ⟨w6.heap.size, 0, none⟩ = some (I p1) ∧ (w7.alloc (.cells #[I p1, I p2] 33)).cell? ⟨w6.heap.size, 1, none⟩ = some (I p2) := ⟨(hb6.at_ 0 _ rfl).1, (hb6.at_ 1 _ rfl).1⟩; have hlow9 := S9.low; clear S9 hb6)
                | (go_at_call 13; refine (alive_any _).mono ?_; rintro e w8 ⟨rfl, hB8⟩))
              go_ret
              exact ⟨rfl, hlow9.trans (hB8.mono hlow9.size)⟩
  · go_ret
    exact ⟨rfl, hqw1.trans (hB8.mono hqw1.size)⟩

set_option maxRecDepth 100000 in
set_option maxHeartbeats 4000000 in
theorem turned_any (Ap Al : Option Addr) (cp cl : Nat) (d : Deck) (po y : Int) (w : World) (hp : Ints w w.heap.size Ap d.posts) (hl : Ints w w.heap.size Al d.lengths)
    (hpl : d.posts.length ≤ 9223372036854775807) (hbl : d.lengths.length ≤ 9223372036854775807) (hy : 0 ≤ y ∧ y ≤ 255) :
    Calls Try.prog 5 #[d.val Ap Al cp cl, I po, .int .u8 y] w fun e w' => e = .returned (.bool true) ∧ Below w.heap.size w w' := by
  by_cases hok : d.ok 400 ∧ 0 ≤ po ∧ po ≤ (d.posts.length : Int) - 1
  · obtain ⟨hd, hpo⟩ := hok
    obtain ⟨k, rfl⟩ := Int.eq_ofNat_of_zero_le hpo.1
    obtain ⟨pb, poff, rfl, _⟩ := hp (by have := hd.1; omega)
    obtain ⟨lb, loff, rfl, _⟩ := hl (by have := hd.1; have := hd.2.2.1; omega)
    exact turned_yes pb poff lb loff cp cl d k y w hp hl hy hd (by omega)
  · have hres : ∃ er : Int, loadRes d po = ((0, 0), er) ∧ (er == 0) = false := by
      unfold loadRes
      by_cases hd : d.ok 400
      · rw [if_pos hd, if_neg (fun h => hok ⟨hd, h⟩)]; exact ⟨2, rfl, rfl⟩
      · rw [if_neg hd]; exact ⟨1, rfl, rfl⟩
    obtain ⟨er, hres, her⟩ := hres
    have hG : ∀ W, Below w.heap.size w W → Calls Try.prog 11 #[.agg #[I 0, I 0, .slice none 0 0], .slice none 0 0, d.val Ap Al cp cl] W (RetSome W) := fun W hB =>
      great_any none 0 ⟨0, 0, []⟩ none 0 0 Ap Al cp cl d W ((hl.below hB).more hB.size) hbl
    have hL : ∀ W, Below w.heap.size w W → Calls Try.prog 14 #[d.val Ap Al cp cl, I po] W fun e w' => e = .returned (prV (loadRes d po)) ∧ Below W.heap.size W w' := fun W hB =>
      Load_any Ap Al cp cl d po W ((hp.below hB).more hB.size) ((hl.below hB).more hB.size) hpl hbl
    rw [hres] at hL
    simp only [prV] at hL
    clear hres hok hp hl
    obtain ⟨ps, ls, own, wt, ap, pe⟩ := d
    simp only [Deck.val] at *
    have HG := Lib.hid hG; have HL := Lib.hid hL
    clear hG hL
    have hce : ∀ W, Below (w.heap.size + 1) (w.alloc (.cells #[.slice Ap ps.length cp, .slice Al ls.length cl, I own, I wt, I ap, I pe] 24)) W →
        (W.cell? ⟨w.heap.size, 0, none⟩ = some (.slice Ap ps.length cp) ∧ W.cell? ⟨w.heap.size, 1, none⟩ = some (.slice Al ls.length cl) ∧ W.cell? ⟨w.heap.size, 2, none⟩ = some (I own) ∧ W.cell? ⟨w.heap.size, 3, none⟩ = some (I wt) ∧ W.cell? ⟨w.heap.size, 4, none⟩ = some (I ap) ∧ W.cell? ⟨w.heap.size, 5, none⟩ = some (I pe)) ∧ Below w.heap.size w W ∧ w.heap.size + 1 ≤ W.heap.size := fun W hB => by
      refine ⟨⟨?_, ?_, ?_, ?_, ?_, ?_⟩, ((Below.refl _ w).alloc (Nat.le_refl _) _).trans (hB.mono (by omega)), by have := hB.size; simpa using this⟩
      iterate 6 (rw [hB.cell (p := ⟨w.heap.size, _, none⟩) (by simp)]; simp [go_sem])
    have HCE := Lib.hid hce
    clear hce
    go_enter Try.func5, Try.ntmps5
    go_wp2_with (first
      | (go_at_call 11; refine (HG.out _ (by (repeat' (first | assumption | exact Below.refl _ _ | refine Below.drew ?_ | refine below_drewN ?_ _ | refine Below.setCell ?_ (by first | omega | (simp; done) | (simp; omega)) _ | refine Below.alloc ?_ (by first | omega | (simp; done) | (simp; omega)) _ | refine Below.trans ?_ (Below.mono (by assumption) (by first | omega | (simp; done) | (simp; omega))))))).mono ?_; rintro e w1 ⟨_ | _, rfl, hB1⟩ <;> (have hw1 : Below (w.heap.size + 1) (w.alloc (.cells #[.slice Ap ps.length cp, .slice Al ls.length cl, I own, I wt, I ap, I pe] 24)) w1 := (by simpa using hB1); obtain ⟨⟨a1, a2, a3, a4, a5, a6⟩, hqw1, hzw1⟩ := HCE.out w1 hw1; clear hB1))
      | (go_at_call 14; refine (HL.out w1 hqw1).mono ?_; rintro e w2 ⟨rfl, hB⟩; have hq2 := hqw1.trans (hB.mono hqw1.size))
      | (go_at_call 13; refine (alive_any _).mono ?_; rintro e w8 ⟨rfl, hB8⟩))
    · go_ret
      exact ⟨rfl, (hq2.alloc hq2.size _).trans (hB8.mono (by have := hq2.size; simp; omega))⟩
    · go_ret
      exact ⟨rfl, hqw1.trans (hB8.mono hqw1.size)⟩
end Go.Proofs.Ytilmlgngnbokfaa
