/- The document's Follows. -/
import Derived.Test.YtijgfdncocjncaaD1
namespace Go.Proofs.Ytijgfdncocjncaa
set_option linter.unusedVariables false
set_option linter.unusedSimpArgs false
open Go Go.RowKit

def At49 (W : World) (a b c d : Int) (tm : Nat → Nat → Array Value) (a' : Act) (w' : World) : Prop := ∃ b9 b10, Box w' b9 [I a, I b] ∧ Box w' b10 [I c, I d] ∧ Below W.heap.size W w' ∧ a' = { tmps := tm b9 b10, defers := [] }
set_option maxRecDepth 100000 in
set_option maxHeartbeats 4000000 in
theorem follows49 (x : Wat) (A B : Option Addr) (c d : Nat) (f t b a : Nat) (w : World) (hx : WatOk x) (hW : WatAt w x A B) (ha : a < x.er.length) (hb : b < x.er.length) (ht : t < x.hb.length) :
    Calls Try.prog 49 #[x.val A c B d, .agg #[I f, I t], I b, I a] w fun e w' => e = .returned (.bool (folB x f t b a)) ∧ Below w.heap.size w w' := by
  have hn6 : x.hb.length ≤ 6 := hx.n6
  have hm64 : x.er.length ≤ 64 := hx.m64
  obtain ⟨hb_, ho, rfl, hhz, hhc⟩ := hW.hb (by omega)
  obtain ⟨eb, eo, rfl, hez, hec⟩ := hW.er (by omega)
  obtain ⟨_, _, k2, k3⟩ := hhc t ht
  obtain ⟨ea0, ea1⟩ := hec a ha
  obtain ⟨eb0, eb1⟩ := hec b hb
  rw [hb_get x ht] at k2 k3
  rw [er_get x ha] at ea0 ea1
  rw [er_get x hb] at eb0 eb1
  have hta := (hx.eru a ha).tm
  have htb := (hx.eru b hb).tm
  have hen := hx.en
  have HFB : Hid (folB x f t b a = ((x.sp a == (f : Int)) && ((x.sp b == (t : Int)) && inB (x.tm b - x.tm a) (x.dl t) (x.dh t)))) := Lib.hid rfl
  dsimp only at k2 k3 ea0 ea1 eb0 eb1
  have H50 : Hid (∀ W : World, Calls Try.prog 50 #[.agg #[I (x.dl t), I (x.dh t)], I (x.tm b - x.tm a)] W fun e w' => e = .returned (.bool (inB (x.tm b - x.tm a) (x.dl t) (x.dh t))) ∧ Below W.heap.size W w') := Lib.hid fun W => has50 _ _ _ W
  generalize inB (x.tm b - x.tm a) (x.dl t) (x.dh t) = r at *
  generalize x.dl t = dl at *
  generalize x.dh t = dh at *
  generalize x.sp a = spa at *
  generalize x.sp b = spb at *
  generalize x.tm a = tma at *
  generalize x.tm b = tmb at *
  have hwv : IntKind.i64.wrap (tmb - tma) = tmb - tma := IntWalk.i64_in _ (by omega)
  clear hhc hec hx hW
  have p0 : (0 : Int) ≤ (a : Int) := by omega
  have p1 : (a : Int) < (x.er.length : Int) := by omega
  have p2 : (0 : Int) ≤ (b : Int) := by omega
  have p3 : (b : Int) < (x.er.length : Int) := by omega
  have p4 : (0 : Int) ≤ (t : Int) := by omega
  have p5 : (t : Int) < (x.hb.length : Int) := by omega
  unfold Wat.val
  obtain ⟨en, hen2⟩ : ∃ en, x.en = en := ⟨_, rfl⟩
  rw [hen2]
  clear hen2
  have HB0 : Hid (Below w.heap.size w ((w.alloc (.cells #[.slice (some ⟨hb_, ho, none⟩) x.hb.length c, .slice (some ⟨eb, eo, none⟩) x.er.length d, I en] 25)).alloc (.cells #[I f, I t] 27))) := Lib.hid (by (repeat' (first | assumption | exact Below.refl _ _ | refine Below.drew ?_ | refine below_drewN ?_ _ | refine Below.setCell ?_ (by first | omega | (simp; done) | (simp; omega)) _ | refine Below.alloc ?_ (by first | omega | (simp; done) | (simp; omega)) _ | refine Below.trans ?_ (Below.mono (by assumption) (by first | omega | (simp; done) | (simp; omega))))))
  have HX0 : Hid (Box ((w.alloc (.cells #[.slice (some ⟨hb_, ho, none⟩) x.hb.length c, .slice (some ⟨eb, eo, none⟩) x.er.length d, I en] 25)).alloc (.cells #[I f, I t] 27)) w.heap.size [.slice (some ⟨hb_, ho, none⟩) x.hb.length c, .slice (some ⟨eb, eo, none⟩) x.er.length d, I en]) := Lib.hid ((Box.new w [.slice (some ⟨hb_, ho, none⟩) x.hb.length c, .slice (some ⟨eb, eo, none⟩) x.er.length d, I en] 25).alloc _)
  have HL0 : Hid (Box ((w.alloc (.cells #[.slice (some ⟨hb_, ho, none⟩) x.hb.length c, .slice (some ⟨eb, eo, none⟩) x.er.length d, I en] 25)).alloc (.cells #[I f, I t] 27)) (w.heap.size + 1) [I f, I t]) := Lib.hid (by have := Box.new (w.alloc (.cells #[.slice (some ⟨hb_, ho, none⟩) x.hb.length c, .slice (some ⟨eb, eo, none⟩) x.er.length d, I en] 25)) [I f, I t] 27; simpa only [World.size_alloc] using this)
  have HZ0 : Hid (((w.alloc (.cells #[.slice (some ⟨hb_, ho, none⟩) x.hb.length c, .slice (some ⟨eb, eo, none⟩) x.er.length d, I en] 25)).alloc (.cells #[I f, I t] 27)).heap.size = w.heap.size + 2) := Lib.hid (by simp)
  go_enter Try.func49, Try.ntmps49
  go_wp2_with (fail)
  generalize (w.alloc (.cells #[.slice (some ⟨hb_, ho, none⟩) x.hb.length c, .slice (some ⟨eb, eo, none⟩) x.er.length d, I en] 25)).alloc (.cells #[I f, I t] 27) = wa at *
  have hza := HZ0.out
  have HCE : Hid (∀ W, Below wa.heap.size wa W → Box W w.heap.size [.slice (some ⟨hb_, ho, none⟩) x.hb.length c, .slice (some ⟨eb, eo, none⟩) x.er.length d, I en] ∧ Box W (w.heap.size + 1) [I f, I t] ∧ W.cell? ⟨eb, eo + a * 2, none⟩ = some (I spa) ∧ W.cell? ⟨eb, eo + a * 2 + 1, none⟩ = some (I tma) ∧ W.cell? ⟨eb, eo + b * 2, none⟩ = some (I spb) ∧ W.cell? ⟨eb, eo + b * 2 + 1, none⟩ = some (I tmb) ∧ W.cell? ⟨hb_, ho + t * 4 + 2, none⟩ = some (I dl) ∧ W.cell? ⟨hb_, ho + t * 4 + 3, none⟩ = some (I dh)) := Lib.hid fun W hB => by
    have hb := HB0.out.trans (hB.mono (by omega))
    exact ⟨HX0.out.call hB, HL0.out.call hB, (hb.cell (p := ⟨eb, _, none⟩) hez).trans ea0, (hb.cell (p := ⟨eb, _, none⟩) hez).trans ea1, (hb.cell (p := ⟨eb, _, none⟩) hez).trans eb0, (hb.cell (p := ⟨eb, _, none⟩) hez).trans eb1, (hb.cell (p := ⟨hb_, _, none⟩) hhz).trans k2, (hb.cell (p := ⟨hb_, _, none⟩) hhz).trans k3⟩
  clear ea0 ea1 eb0 eb1 k2 k3
  refine (wpIn_wide (n := 9)).1 ?_
  refine wpIn_mono (Q := fun e a' w' => e = .normal ∧ At49 wa spa tma spb tmb (fun b9 b10 => #[.agg #[.slice (some ⟨hb_, ho, none⟩) x.hb.length c, .slice (some ⟨eb, eo, none⟩) x.er.length d, I en], .agg #[I f, I t], I b, I a, .pointer (some ⟨w.heap.size, 0, none⟩), .pointer (some ⟨w.heap.size + 1, 0, none⟩), undef, undef, .bool false, .pointer (some ⟨b9, 0, none⟩), .pointer (some ⟨b10, 0, none⟩), .pointer (some ⟨w.heap.size, 1, none⟩), .slice (some ⟨eb, eo, none⟩) x.er.length d, I a, .pointer (some ⟨eb, eo + a * 2, none⟩), .agg #[I spa, I tma], .pointer (some ⟨w.heap.size, 1, none⟩), .slice (some ⟨eb, eo, none⟩) x.er.length d, I b, .pointer (some ⟨eb, eo + b * 2, none⟩), .agg #[I spb, I tmb], undef, undef, undef, undef, undef, undef, undef, undef, undef, undef, undef, undef, undef, undef, undef, undef, undef, undef, undef, undef, undef, undef, undef, undef, undef, undef, undef]) a' w') ?_ ?_
  · refine wpIn_region_plan (Plan.ons [0, 1, 2, 3, 4, 5, 6, 7, 8, 9] (.two 10 (Plan.ons [11, 12, 13] .fin) 11 (Plan.ons [10, 12, 13] .fin))) [0, 1, 2, 3, 4, 5, 6, 7, 8, 9] (fun W' => Below wa.heap.size wa W') [] rfl (by kernel_rfl) (by kernel_rfl) (fun _ _ _ _ _ h => by cases h.1) (Below.refl _ _).drew ?_
    have HCS : Hid (∀ W, Below wa.heap.size wa W → W.cell? ⟨w.heap.size, 1, none⟩ = some (.slice (some ⟨eb, eo, none⟩) x.er.length d) ∧ W.cell? ⟨eb, eo + a * 2, none⟩ = some (I spa) ∧ W.cell? ⟨eb, eo + a * 2 + 1, none⟩ = some (I tma) ∧ W.cell? ⟨eb, eo + b * 2, none⟩ = some (I spb) ∧ W.cell? ⟨eb, eo + b * 2 + 1, none⟩ = some (I tmb)) := Lib.hid fun W h => by
      obtain ⟨q1, _, q3, q4, q5, q6, _⟩ := HCE.out W h
      exact ⟨(q1.at_ 1 _ rfl).1, q3, q4, q5, q6⟩
    (refine ordQ_held (.pointer (some ⟨w.heap.size, 1, none⟩)) rfl rfl rfl rfl (fun W' hC' => ?_) (fun K hK => ?_); (focus (obtain ⟨gS, g0, g1, g2, g3⟩ := HCS.out _ hC'; go_simp; try exact ⟨rfl, rfl⟩)); go_simp; refine hK _ ?_; clear hK K)
    (refine ordQ_held (.slice (some ⟨eb, eo, none⟩) x.er.length d) rfl rfl rfl rfl (fun W' hC' => ?_) (fun K hK => ?_); (focus (obtain ⟨gS, g0, g1, g2, g3⟩ := HCS.out _ hC'; go_simp; try exact ⟨rfl, rfl⟩)); go_simp; refine hK _ ?_; clear hK K)
    (refine ordQ_held (I a) rfl rfl rfl rfl (fun W' hC' => ?_) (fun K hK => ?_); (focus (obtain ⟨gS, g0, g1, g2, g3⟩ := HCS.out _ hC'; go_simp; try exact ⟨rfl, rfl⟩)); go_simp; refine hK _ ?_; clear hK K)
    (refine ordQ_held (.pointer (some ⟨eb, eo + a * 2, none⟩)) rfl rfl rfl rfl (fun W' hC' => ?_) (fun K hK => ?_); (focus (obtain ⟨gS, g0, g1, g2, g3⟩ := HCS.out _ hC'; go_simp; try exact ⟨rfl, rfl⟩)); go_simp; refine hK _ ?_; clear hK K)
    (refine ordQ_held (.agg #[I spa, I tma]) rfl rfl rfl rfl (fun W' hC' => ?_) (fun K hK => ?_); (focus (obtain ⟨gS, g0, g1, g2, g3⟩ := HCS.out _ hC'; go_simp; try exact ⟨rfl, rfl⟩)); go_simp; refine hK _ ?_; clear hK K)
    (refine ordQ_held (.pointer (some ⟨w.heap.size, 1, none⟩)) rfl rfl rfl rfl (fun W' hC' => ?_) (fun K hK => ?_); (focus (obtain ⟨gS, g0, g1, g2, g3⟩ := HCS.out _ hC'; go_simp; try exact ⟨rfl, rfl⟩)); go_simp; refine hK _ ?_; clear hK K)
    (refine ordQ_held (.slice (some ⟨eb, eo, none⟩) x.er.length d) rfl rfl rfl rfl (fun W' hC' => ?_) (fun K hK => ?_); (focus (obtain ⟨gS, g0, g1, g2, g3⟩ := HCS.out _ hC'; go_simp; try exact ⟨rfl, rfl⟩)); go_simp; refine hK _ ?_; clear hK K)
    (refine ordQ_held (I b) rfl rfl rfl rfl (fun W' hC' => ?_) (fun K hK => ?_); (focus (obtain ⟨gS, g0, g1, g2, g3⟩ := HCS.out _ hC'; go_simp; try exact ⟨rfl, rfl⟩)); go_simp; refine hK _ ?_; clear hK K)
    (refine ordQ_held (.pointer (some ⟨eb, eo + b * 2, none⟩)) rfl rfl rfl rfl (fun W' hC' => ?_) (fun K hK => ?_); (focus (obtain ⟨gS, g0, g1, g2, g3⟩ := HCS.out _ hC'; go_simp; try exact ⟨rfl, rfl⟩)); go_simp; refine hK _ ?_; clear hK K)
    (refine ordQ_held (.agg #[I spb, I tmb]) rfl rfl rfl rfl (fun W' hC' => ?_) (fun K hK => ?_); (focus (obtain ⟨gS, g0, g1, g2, g3⟩ := HCS.out _ hC'; go_simp; try exact ⟨rfl, rfl⟩)); go_simp; refine hK _ ?_; clear hK K)
    refine ordQ_two rfl rfl rfl rfl (fun K hK => ?_) (fun K hK => ?_)
    · gi_wp2
      refine hK _ _ (fun _ => by (repeat' (first | assumption | exact Below.refl _ _ | refine Below.drew ?_ | refine below_drewN ?_ _ | refine Below.setCell ?_ (by first | omega | (simp; done) | (simp; omega)) _ | refine Below.alloc ?_ (by first | omega | (simp; done) | (simp; omega)) _ | refine Below.trans ?_ (Below.mono (by assumption) (by first | omega | (simp; done) | (simp; omega)))))) ?_
      clear hK K
      refine ordQ_hv rfl rfl rfl (fun K hK => ?_)
      gi_wp2
      refine hK _ _ (fun _ => by (repeat' (first | assumption | exact Below.refl _ _ | refine Below.drew ?_ | refine below_drewN ?_ _ | refine Below.setCell ?_ (by first | omega | (simp; done) | (simp; omega)) _ | refine Below.alloc ?_ (by first | omega | (simp; done) | (simp; omega)) _ | refine Below.trans ?_ (Below.mono (by assumption) (by first | omega | (simp; done) | (simp; omega)))))) ?_
      clear hK K
      refine ordQ_hv rfl rfl rfl (fun K hK => ?_)
      gi_wp2
      refine hK _ _ (fun _ => by (repeat' (first | assumption | exact Below.refl _ _ | refine Below.drew ?_ | refine below_drewN ?_ _ | refine Below.setCell ?_ (by first | omega | (simp; done) | (simp; omega)) _ | refine Below.alloc ?_ (by first | omega | (simp; done) | (simp; omega)) _ | refine Below.trans ?_ (Below.mono (by assumption) (by first | omega | (simp; done) | (simp; omega)))))) ?_
      clear hK K
      refine ordQ_hv rfl rfl rfl (fun K hK => ?_)
      gi_wp2
      refine hK _ _ (fun _ => by (repeat' (first | assumption | exact Below.refl _ _ | refine Below.drew ?_ | refine below_drewN ?_ _ | refine Below.setCell ?_ (by first | omega | (simp; done) | (simp; omega)) _ | refine Below.alloc ?_ (by first | omega | (simp; done) | (simp; omega)) _ | refine Below.trans ?_ (Below.mono (by assumption) (by first | omega | (simp; done) | (simp; omega)))))) ?_
      clear hK K
      have q1 : Box (((wa.alloc (.cells #[.int .i64 spa, .int .i64 tma] 50)).alloc (.cells #[.int .i64 spb, .int .i64 tmb] 50)).drew) (w.heap.size + 2) [I spa, I tma] := by rw [← hza]; exact ((Box.new wa [I spa, I tma] 50).alloc _).drew
      have q2 : Box (((wa.alloc (.cells #[.int .i64 spa, .int .i64 tma] 50)).alloc (.cells #[.int .i64 spb, .int .i64 tmb] 50)).drew) (w.heap.size + 2 + 1) [I spb, I tmb] := by
        have h := Box.new (wa.alloc (.cells #[.int .i64 spa, .int .i64 tma] 50)) [I spb, I tmb] 50
        rw [World.size_alloc, hza] at h
        exact h.drew
      exact ordQ_fin ⟨rfl, _, _, q1, q2, by (repeat' (first | assumption | exact Below.refl _ _ | refine Below.drew ?_ | refine below_drewN ?_ _ | refine Below.setCell ?_ (by first | omega | (simp; done) | (simp; omega)) _ | refine Below.alloc ?_ (by first | omega | (simp; done) | (simp; omega)) _ | refine Below.trans ?_ (Below.mono (by assumption) (by first | omega | (simp; done) | (simp; omega))))), rfl⟩
    · gi_wp2
      refine hK _ _ (fun _ => by (repeat' (first | assumption | exact Below.refl _ _ | refine Below.drew ?_ | refine below_drewN ?_ _ | refine Below.setCell ?_ (by first | omega | (simp; done) | (simp; omega)) _ | refine Below.alloc ?_ (by first | omega | (simp; done) | (simp; omega)) _ | refine Below.trans ?_ (Below.mono (by assumption) (by first | omega | (simp; done) | (simp; omega)))))) ?_
      clear hK K
      refine ordQ_hv rfl rfl rfl (fun K hK => ?_)
      gi_wp2
      refine hK _ _ (fun _ => by (repeat' (first | assumption | exact Below.refl _ _ | refine Below.drew ?_ | refine below_drewN ?_ _ | refine Below.setCell ?_ (by first | omega | (simp; done) | (simp; omega)) _ | refine Below.alloc ?_ (by first | omega | (simp; done) | (simp; omega)) _ | refine Below.trans ?_ (Below.mono (by assumption) (by first | omega | (simp; done) | (simp; omega)))))) ?_
      clear hK K
      refine ordQ_hv rfl rfl rfl (fun K hK => ?_)
      gi_wp2
      refine hK _ _ (fun _ => by (repeat' (first | assumption | exact Below.refl _ _ | refine Below.drew ?_ | refine below_drewN ?_ _ | refine Below.setCell ?_ (by first | omega | (simp; done) | (simp; omega)) _ | refine Below.alloc ?_ (by first | omega | (simp; done) | (simp; omega)) _ | refine Below.trans ?_ (Below.mono (by assumption) (by first | omega | (simp; done) | (simp; omega)))))) ?_
      clear hK K
      refine ordQ_hv rfl rfl rfl (fun K hK => ?_)
      gi_wp2
      refine hK _ _ (fun _ => by (repeat' (first | assumption | exact Below.refl _ _ | refine Below.drew ?_ | refine below_drewN ?_ _ | refine Below.setCell ?_ (by first | omega | (simp; done) | (simp; omega)) _ | refine Below.alloc ?_ (by first | omega | (simp; done) | (simp; omega)) _ | refine Below.trans ?_ (Below.mono (by assumption) (by first | omega | (simp; done) | (simp; omega)))))) ?_
      clear hK K
      have q1 : Box (((wa.alloc (.cells #[.int .i64 spb, .int .i64 tmb] 50)).alloc (.cells #[.int .i64 spa, .int .i64 tma] 50)).drew) (w.heap.size + 2) [I spb, I tmb] := by rw [← hza]; exact ((Box.new wa [I spb, I tmb] 50).alloc _).drew
      have q2 : Box (((wa.alloc (.cells #[.int .i64 spb, .int .i64 tmb] 50)).alloc (.cells #[.int .i64 spa, .int .i64 tma] 50)).drew) (w.heap.size + 2 + 1) [I spa, I tma] := by
        have h := Box.new (wa.alloc (.cells #[.int .i64 spb, .int .i64 tmb] 50)) [I spa, I tma] 50
        rw [World.size_alloc, hza] at h
        exact h.drew
      exact ordQ_fin ⟨rfl, _, _, q2, q1, by (repeat' (first | assumption | exact Below.refl _ _ | refine Below.drew ?_ | refine below_drewN ?_ _ | refine Below.setCell ?_ (by first | omega | (simp; done) | (simp; omega)) _ | refine Below.alloc ?_ (by first | omega | (simp; done) | (simp; omega)) _ | refine Below.trans ?_ (Below.mono (by assumption) (by first | omega | (simp; done) | (simp; omega))))), rfl⟩
  · rintro e a' w6 ⟨rfl, b9, b10, h9, h10, hB6, rfl⟩
    have hz6 := hB6.size
    have hz60 : w.heap.size ≤ w6.heap.size := by omega
    have HBW : Hid (Below w.heap.size w w6) := Lib.hid (HB0.out.trans (hB6.mono (by omega)))
    have HC6 : Hid (∀ W, Below w6.heap.size w6 W → W.cell? ⟨w.heap.size, 0, none⟩ = some (.slice (some ⟨hb_, ho, none⟩) x.hb.length c) ∧ W.cell? ⟨w.heap.size + 1, 0, none⟩ = some (I f) ∧ W.cell? ⟨w.heap.size + 1, 1, none⟩ = some (I t) ∧ W.cell? ⟨b9, 0, none⟩ = some (I spa) ∧ W.cell? ⟨b9, 1, none⟩ = some (I tma) ∧ W.cell? ⟨b10, 0, none⟩ = some (I spb) ∧ W.cell? ⟨b10, 1, none⟩ = some (I tmb) ∧ W.cell? ⟨hb_, ho + t * 4 + 2, none⟩ = some (I dl) ∧ W.cell? ⟨hb_, ho + t * 4 + 3, none⟩ = some (I dh)) := Lib.hid fun W hB => by
      obtain ⟨q1, q2, _, _, _, _, q7, q8⟩ := HCE.out W (hB6.trans (hB.mono hz6))
      exact ⟨(q1.at_ 0 _ rfl).1, (q2.at_ 0 _ rfl).1, (q2.at_ 1 _ rfl).1, ((h9.call hB).at_ 0 _ rfl).1, ((h9.call hB).at_ 1 _ rfl).1, ((h10.call hB).at_ 0 _ rfl).1, ((h10.call hB).at_ 1 _ rfl).1, q7, q8⟩
    clear h9 h10 hB6 HCE
    cases e1 : (spa == (f : Int))
    · rw [e1] at HFB
      (go_wp2_with (fail))
      refine (wpIn_wide (n := 9)).1 ?_
      refine wpIn_region_valsB [some 21, some 22, some 23, some 24, some 25, some 26, some 27, some 28, some 29, some 30, some 31, some 32, some 33, some 34, some 35, some 36, some 37, some 38, some 39, some 40, some 41, some 42, some 43, some 44, some 45, some 46, some 47, some 8]
        (nthV [.pointer (some ⟨b9, 0, none⟩), I spa, .pointer (some ⟨w.heap.size + 1, 0, none⟩), I f, .bool false, .bool false, undef, undef, undef, undef, undef, .bool false, .bool false, undef, undef, undef, undef, undef, undef, undef, undef, undef, undef, undef, undef, undef, .bool false, .bool false])
        [(9, .pointer (some ⟨b9, 0, none⟩)), (10, .pointer (some ⟨b10, 0, none⟩)), (5, .pointer (some ⟨w.heap.size + 1, 0, none⟩)), (4, .pointer (some ⟨w.heap.size, 0, none⟩))]
        (fun W => Below w6.heap.size w6 W) rfl (by kernel_rfl) (fun _ => trivial) (by kernel_rfl) (by kernel_rfl) (by kernel_rfl) ⟨rfl, rfl, rfl, rfl, trivial⟩ (fun _ d _ _ _ h => by cases d <;> exact h) (by first | exact (Below.refl _ _).drew | exact (below_drewN (Below.refl _ _) _).drew) ?_ ?_
      · refine ⟨?_, ?_, ?_, ?_, ?_, ?_, ?_, ?_, ?_, ?_, ?_, ?_, ?_, ?_, ?_, ?_, ?_, ?_, ?_, ?_, ?_, ?_, ?_, ?_, ?_, ?_, ?_, ?_, trivial⟩
        all_goals (intro x0 W hC; obtain ⟨x0_, l0, l1, n0, n1, n2, n3, k2, k3⟩ := HC6.out _ hC)
        all_goals first
          | (refine e_no rfl ?_; rfl)
          | (refine e_yes rfl ?_; intro b e hb K hK)
        all_goals first
          | (refine opE_li rfl hb ?_; simp only [execOp, resolve, Oper.about, envB, lookB, lookV, nthV, List.map_toArray, List.map_cons, List.map_nil, Nat.reduceEqDiff, reduceIte, Nat.succ_ne_zero, Nat.zero_ne_one, Nat.one_ne_zero, Nat.reduceAdd, Nat.zero_add]; go_simp; exact hK _ hC)
      · (intro W hC; have HC := Lib.hid hC; clear hC; simp only [putD, nthV, Act.put, List.setIfInBounds_toArray, List.set_cons_succ, List.set_cons_zero, Nat.zero_add, Nat.reduceAdd])
        have hCo := HC.out
        clear HC
        go_wp2_with (fail)
        refine bodyPost_ret (v := .bool false) (by simp [results, Try.results49, go_sem]) rfl ⟨by rw [HFB.out]; rfl, HBW.out.trans (hCo.mono hz60)⟩
    · cases e2 : (spb == (t : Int))
      · rw [e1, e2] at HFB
        (go_wp2_with (fail))
        refine (wpIn_wide (n := 9)).1 ?_
        refine wpIn_region_valsB [some 21, some 22, some 23, some 24, some 25, some 26, some 27, some 28, some 29, some 30, some 31, some 32, some 33, some 34, some 35, some 36, some 37, some 38, some 39, some 40, some 41, some 42, some 43, some 44, some 45, some 46, some 47, some 8]
          (nthV [.pointer (some ⟨b9, 0, none⟩), I spa, .pointer (some ⟨w.heap.size + 1, 0, none⟩), I f, .bool true, .bool true, .pointer (some ⟨b10, 0, none⟩), I spb, .pointer (some ⟨w.heap.size + 1, 1, none⟩), I t, .bool false, .bool false, .bool false, undef, undef, undef, undef, undef, undef, undef, undef, undef, undef, undef, undef, undef, .bool false, .bool false])
          [(9, .pointer (some ⟨b9, 0, none⟩)), (10, .pointer (some ⟨b10, 0, none⟩)), (5, .pointer (some ⟨w.heap.size + 1, 0, none⟩)), (4, .pointer (some ⟨w.heap.size, 0, none⟩))]
          (fun W => Below w6.heap.size w6 W) rfl (by kernel_rfl) (fun _ => trivial) (by kernel_rfl) (by kernel_rfl) (by kernel_rfl) ⟨rfl, rfl, rfl, rfl, trivial⟩ (fun _ d _ _ _ h => by cases d <;> exact h) (by first | exact (Below.refl _ _).drew | exact (below_drewN (Below.refl _ _) _).drew) ?_ ?_
        · refine ⟨?_, ?_, ?_, ?_, ?_, ?_, ?_, ?_, ?_, ?_, ?_, ?_, ?_, ?_, ?_, ?_, ?_, ?_, ?_, ?_, ?_, ?_, ?_, ?_, ?_, ?_, ?_, ?_, trivial⟩
          all_goals (intro x0 W hC; obtain ⟨x0_, l0, l1, n0, n1, n2, n3, k2, k3⟩ := HC6.out _ hC)
          all_goals first
            | (refine e_no rfl ?_; rfl)
            | (refine e_yes rfl ?_; intro b e hb K hK)
          all_goals first
            | (refine opE_li rfl hb ?_; simp only [execOp, resolve, Oper.about, envB, lookB, lookV, nthV, List.map_toArray, List.map_cons, List.map_nil, Nat.reduceEqDiff, reduceIte, Nat.succ_ne_zero, Nat.zero_ne_one, Nat.one_ne_zero, Nat.reduceAdd, Nat.zero_add]; go_simp; exact hK _ hC)
        · (intro W hC; have HC := Lib.hid hC; clear hC; simp only [putD, nthV, Act.put, List.setIfInBounds_toArray, List.set_cons_succ, List.set_cons_zero, Nat.zero_add, Nat.reduceAdd])
          have hCo := HC.out
          clear HC
          go_wp2_with (fail)
          refine bodyPost_ret (v := .bool false) (by simp [results, Try.results49, go_sem]) rfl ⟨by rw [HFB.out]; rfl, HBW.out.trans (hCo.mono hz60)⟩
      · rw [e1, e2] at HFB
        (go_wp2_with (fail))
        refine (wpIn_wide (n := 9)).1 ?_
        refine wpIn_region_valsB [some 21, some 22, some 23, some 24, some 25, some 26, some 27, some 28, some 29, some 30, some 31, some 32, some 33, some 34, some 35, some 36, some 37, some 38, some 39, some 40, some 41, some 42, some 43, some 44, some 45, some 46, some 47, some 8]
          (nthV [.pointer (some ⟨b9, 0, none⟩), I spa, .pointer (some ⟨w.heap.size + 1, 0, none⟩), I f, .bool true, .bool true, .pointer (some ⟨b10, 0, none⟩), I spb, .pointer (some ⟨w.heap.size + 1, 1, none⟩), I t, .bool true, .bool true, .bool true, .pointer (some ⟨w.heap.size, 0, none⟩), .slice (some ⟨hb_, ho, none⟩) x.hb.length c, .pointer (some ⟨w.heap.size + 1, 1, none⟩), I t, .pointer (some ⟨hb_, ho + t * 4, none⟩), .pointer (some ⟨hb_, ho + t * 4 + 2, none⟩), .agg #[I dl, I dh], .pointer (some ⟨b10, 1, none⟩), I tmb, .pointer (some ⟨b9, 1, none⟩), I tma, I (tmb - tma), .bool r, .bool r, .bool r])
          [(9, .pointer (some ⟨b9, 0, none⟩)), (10, .pointer (some ⟨b10, 0, none⟩)), (5, .pointer (some ⟨w.heap.size + 1, 0, none⟩)), (4, .pointer (some ⟨w.heap.size, 0, none⟩))]
          (fun W => Below w6.heap.size w6 W) rfl (by kernel_rfl) (fun _ => trivial) (by kernel_rfl) (by kernel_rfl) (by kernel_rfl) ⟨rfl, rfl, rfl, rfl, trivial⟩ (fun _ d _ _ _ h => by cases d <;> exact h) (by first | exact (Below.refl _ _).drew | exact (below_drewN (Below.refl _ _) _).drew) ?_ ?_
        · refine ⟨?_, ?_, ?_, ?_, ?_, ?_, ?_, ?_, ?_, ?_, ?_, ?_, ?_, ?_, ?_, ?_, ?_, ?_, ?_, ?_, ?_, ?_, ?_, ?_, ?_, ?_, ?_, ?_, trivial⟩
          all_goals (intro x0 W hC; obtain ⟨x0_, l0, l1, n0, n1, n2, n3, k2, k3⟩ := HC6.out _ hC)
          all_goals first
            | (refine e_no rfl ?_; rfl)
            | (refine e_yes rfl ?_; intro b e hb K hK)
          all_goals first
            | (refine opE_li rfl hb ?_; simp only [execOp, resolve, Oper.about, envB, lookB, lookV, nthV, List.map_toArray, List.map_cons, List.map_nil, Nat.reduceEqDiff, reduceIte, Nat.succ_ne_zero, Nat.zero_ne_one, Nat.one_ne_zero, Nat.reduceAdd, Nat.zero_add]; go_simp; exact hK _ hC)
            | (refine opE_call rfl hb (fun _ => trivial) (fun h => (by cases h)) 50 #[.agg #[I dl, I dh], I (tmb - tma)] ?_ ?_
               · (simp only [execOp, resolve, Oper.about, envB, lookB, lookV, nthV, List.map_toArray, List.map_cons, List.map_nil, Nat.reduceEqDiff, reduceIte, Nat.succ_ne_zero, Nat.zero_ne_one, Nat.one_ne_zero, Nat.reduceAdd, Nat.zero_add])
                 go_simp
               · refine callsIn_wide.2 ((H50.out _).mono ?_)
                 rintro e w6 ⟨rfl, hB6⟩
                 exact ⟨_, rfl, hK _ (hC.trans (hB6.mono hC.size))⟩)
        · (intro W hC; have HC := Lib.hid hC; clear hC; simp only [putD, nthV, Act.put, List.setIfInBounds_toArray, List.set_cons_succ, List.set_cons_zero, Nat.zero_add, Nat.reduceAdd])
          have hCo := HC.out
          clear HC
          go_wp2_with (fail)
          refine bodyPost_ret (v := .bool r) (by simp [results, Try.results49, go_sem]) rfl ⟨by rw [HFB.out]; rfl, HBW.out.trans (hCo.mono hz60)⟩
end Go.Proofs.Ytijgfdncocjncaa
