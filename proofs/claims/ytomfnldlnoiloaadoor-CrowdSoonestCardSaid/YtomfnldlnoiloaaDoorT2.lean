/- A day ahead of its first minute. -/
import Derived.Test.YtomfnldlnoiloaaDoorT1
import Derived.Test.YtomfnldlnoiloaaDoorD2
import Derived.Laws.MakeOwn
namespace Go.Proofs.YtomfnldlnoiloaaDoor
set_option linter.unusedVariables false
set_option linter.unusedSimpArgs false
open Go Go.RowKit Go.Maps

theorem made_ints (n : Nat) : madeCells #[I 0] (n * 1) = (List.replicate n (I 0)).toArray := by
  apply Array.ext
  · simp [madeCells]
  · intro i h1 h2
    simp [madeCells, Nat.mod_one]
theorem info3 : (Tryd.prog.info? 3).map (fun i => (i.zero, i.size, i.bytes)) = some (some (I 0), 1, 8) := by kernel_rfl
theorem make22 (n : Nat) (hn : n ≤ 1000000) (W : World) : (Instr.makeSlice 22 (I n) (I n)).run Tryd.prog W = .ok (.slice (some ⟨W.heap.size, 0, none⟩) n n) (W.alloc (.cells (List.replicate n (I 0)).toArray 3)) := by
  obtain ⟨i, h1, h2, h3, h4⟩ := info_parts info3
  have h := run_make (P := Tryd.prog) W 22 3 i (I 0) Tryd.underlying22 h1 h2 .i64 .i64 n n (by omega) (Int.le_refl _) (by rw [h4]; omega) (by omega)
  rw [Int.toNat_natCast, h3] at h
  rw [h]
  show Result.ok _ (W.alloc (.cells (madeCells #[I 0] (n * 1)) 3)) = _
  rw [made_ints]
/-- Those who come later. -/
def ComF (f : Value → Option Value) (com : Nat → Nat → Int) : Prop := ∀ p t : Nat, p ≤ 1000 → t ≤ 1000 → (f (sd p t)).getD (I 0) = I (com p t)
theorem sd_inj {a b c d : Nat} (h : sd a b = sd c d) : a = c ∧ b = d := by
  simp only [sd, Value.agg.injEq, Array.mk.injEq, List.cons.injEq, Value.int.injEq, true_and, and_true] at h
  omega
theorem ComF.put {f : Value → Option Value} {com : Nat → Nat → Int} (h : ComF f com) (p t : Nat) (x : Int) : ComF (putF f (sd p t) (I x)) (fun a b => if a = p ∧ b = t then x else com a b) := fun a b ha hb => by
  by_cases e : a = p ∧ b = t
  · obtain ⟨rfl, rfl⟩ := e
    rw [putF_same]; dsimp only; rw [if_pos ⟨rfl, rfl⟩]; rfl
  · rw [putF_other (fun h => e (by have := sd_inj h; omega))]; dsimp only; rw [if_neg e]; exact h a b ha hb
theorem ComF.congr {f : Value → Option Value} {com com' : Nat → Nat → Int} (h : ComF f com) (e : ∀ p t, com p t = com' p t) : ComF f com' := fun p t hp ht => by rw [← e]; exact h p t hp ht
theorem zero3 (w : World) : (zeroValue 3).run Tryd.prog w = .ok (I 0) w := by
  have h : (Tryd.prog.info? 3).bind (·.zero) = some (I 0) := by kernel_rfl
  simp [zeroValue, typeInfo]
  cases hi : Tryd.prog.info? 3 with
  | none => rw [hi] at h; cases h
  | some i => rw [hi] at h; simp at h; simp [h]
/-- A day as it goes: who is there, and how many come. -/
structure DayAt (W : World) (base : Nat) (v : Vis) (A1 A2 A3 : Option Addr) (q1 q2 q3 db tb mb : Nat) (there : List Int) (com : Nat → Nat → Int) : Prop where
  box : Box W db [.slice A1 v.rm.length q1, .slice A2 v.tr.length q2, .slice A3 v.ar.length q3, .slice (some ⟨tb, 0, none⟩) v.rm.length v.rm.length, .map (some mb)]
  th : Box W tb (there.map I)
  len : there.length = v.rm.length
  ne : db ≠ tb ∧ db ≠ mb ∧ tb ≠ mb
  map : ∃ N f, MapAt Tryd.prog 46 W mb N f ∧ ComF f com
  lo : base ≤ db ∧ base ≤ tb ∧ base ≤ mb
theorem DayAt.below {W W' : World} {base : Nat} {v : Vis} {A1 A2 A3 : Option Addr} {q1 q2 q3 db tb mb : Nat} {there : List Int} {com : Nat → Nat → Int} (h : DayAt W base v A1 A2 A3 q1 q2 q3 db tb mb there com) (hB : Below W.heap.size W W') : DayAt W' base v A1 A2 A3 q1 q2 q3 db tb mb there com := by
  obtain ⟨N, f, m1, m2⟩ := h.map
  exact ⟨h.box.below hB h.box.1, h.th.below hB h.th.1, h.len, h.ne, ⟨N, f, m1.below hB m1.lt, m2⟩, h.lo⟩
set_option maxRecDepth 100000 in
set_option maxHeartbeats 4000000 in
theorem newDay32 (v : Vis) (hv : VisOk v) (A1 A2 A3 : Option Addr) (q1 q2 q3 : Nat) (w : World) (hI : VisAt w w.heap.size v A1 A2 A3) :
    Calls Tryd.prog 32 #[visV v A1 A2 A3 q1 q2 q3] w fun e w' => ∃ db tb mb, e = .returned (ptr db) ∧ Below w.heap.size w w' ∧ DayAt w' w.heap.size v A1 A2 A3 q1 q2 q3 db tb mb (List.replicate v.rm.length 0) (arrive v) := by
  have hn := hv.n
  unfold Vis.n at hn
  have hal := hv.al
  have HV := Lib.hid hv
  have HI := Lib.hid hI
  clear hv hI
  have hms := fun W => make22 v.rm.length (by omega) W
  have hmk := fun W => run_makeMap (P := Tryd.prog) 66 W
  go_enter Tryd.func32, Tryd.ntmps32
  go_wp2_with (fail)
  refine (wpIn_wide (n := 9)).1 ?_
  have hb1 : Box (w.alloc (.cells #[Value.slice A1 v.rm.length q1, .slice A2 v.tr.length q2, .slice A3 v.ar.length q3] 26)) w.heap.size [Value.slice A1 v.rm.length q1, .slice A2 v.tr.length q2, .slice A3 v.ar.length q3] := Box.new w [Value.slice A1 v.rm.length q1, .slice A2 v.tr.length q2, .slice A3 v.ar.length q3] 26
  have hB1 : Below w.heap.size w (w.alloc (.cells #[Value.slice A1 v.rm.length q1, .slice A2 v.tr.length q2, .slice A3 v.ar.length q3] 26)) := by (repeat' (first | assumption | exact Below.refl _ _ | refine Below.drew ?_ | refine below_drewN ?_ _ | refine Below.setCell ?_ (by first | omega | (simp; done) | (simp; omega)) _ | refine Below.alloc ?_ (by first | omega | (simp; done) | (simp; omega)) _ | refine Below.trans ?_ (Below.mono (by assumption) (by first | omega | (simp; done) | (simp; omega)))))
  have hsz : (w.alloc (.cells #[Value.slice A1 v.rm.length q1, .slice A2 v.tr.length q2, .slice A3 v.ar.length q3] 26)).heap.size = w.heap.size + 1 := by simp
  obtain ⟨w1, hw1⟩ : ∃ z, w.alloc (.cells #[Value.slice A1 v.rm.length q1, .slice A2 v.tr.length q2, .slice A3 v.ar.length q3] 26) = z := ⟨_, rfl⟩
  rw [hw1] at hb1 hB1 hsz ⊢
  clear hw1
  have HC : Hid (∀ W, Below w1.heap.size w1 W → W.cell? ⟨w.heap.size, 0, none⟩ = some (.slice A1 v.rm.length q1) ∧ W.cell? ⟨w.heap.size, 1, none⟩ = some (.slice A2 v.tr.length q2) ∧ W.cell? ⟨w.heap.size, 2, none⟩ = some (.slice A3 v.ar.length q3)) := Lib.hid fun W h => by
    have := hb1.call h
    exact ⟨(this.at_ 0 _ rfl).1, (this.at_ 1 _ rfl).1, (this.at_ 2 _ rfl).1⟩
  refine wpIn_mono (Q := fun e a' w' => e = .normal ∧ ∃ db tb mb, a' = { tmps := #[visV v A1 A2 A3 q1 q2 q3, ptr w.heap.size, .pointer none, ptr db, undef, undef, visV v A1 A2 A3 q1 q2 q3, .pointer (some ⟨w.heap.size, 0, none⟩), .slice A1 v.rm.length q1, I v.rm.length, .slice (some ⟨tb, 0, none⟩) v.rm.length v.rm.length, .map (some mb), .agg #[.slice A1 v.rm.length q1, .slice A2 v.tr.length q2, .slice A3 v.ar.length q3, .slice (some ⟨tb, 0, none⟩) v.rm.length v.rm.length, .map (some mb)], ptr db, undef, undef, undef, undef, undef, undef, undef, undef, undef, undef, undef, undef, undef, undef, undef, undef, undef, undef, undef, undef, undef, undef, undef, undef], defers := [] } ∧ Below w.heap.size w w' ∧ Box w' w.heap.size [.slice A1 v.rm.length q1, .slice A2 v.tr.length q2, .slice A3 v.ar.length q3] ∧ DayAt w' (w.heap.size + 1) v A1 A2 A3 q1 q2 q3 db tb mb (List.replicate v.rm.length 0) (fun _ _ => 0)) ?_ ?_
  · refine wpIn_region_plan (Plan.ons [0, 1, 2, 3] (.two 4 (Plan.ons [5, 6, 7, 8] .fin) 5 (Plan.ons [4, 6, 7, 8] .fin))) [0, 1, 2, 3] (fun W => Below w1.heap.size w1 W) [] rfl (by kernel_rfl) (by kernel_rfl) (fun _ _ _ _ _ h => by cases h.1) (Below.refl _ _).drew ?_
    (refine ordQ_held (visV v A1 A2 A3 q1 q2 q3) rfl rfl rfl rfl (fun W' hC' => ?_) (fun K hK => ?_); (focus (obtain ⟨c0, c1, c2⟩ := HC.out _ hC'; go_simp; try exact ⟨rfl, rfl⟩)); go_simp; refine hK _ ?_; clear hK K)
    (refine ordQ_held (.pointer (some ⟨w.heap.size, 0, none⟩)) rfl rfl rfl rfl (fun W' hC' => ?_) (fun K hK => ?_); (focus (obtain ⟨c0, c1, c2⟩ := HC.out _ hC'; go_simp; try exact ⟨rfl, rfl⟩)); go_simp; refine hK _ ?_; clear hK K)
    (refine ordQ_held (.slice A1 v.rm.length q1) rfl rfl rfl rfl (fun W' hC' => ?_) (fun K hK => ?_); (focus (obtain ⟨c0, c1, c2⟩ := HC.out _ hC'; go_simp; try exact ⟨rfl, rfl⟩)); go_simp; refine hK _ ?_; clear hK K)
    (refine ordQ_held (I v.rm.length) rfl rfl rfl rfl (fun W' hC' => ?_) (fun K hK => ?_); (focus (obtain ⟨c0, c1, c2⟩ := HC.out _ hC'; go_simp; try exact ⟨rfl, rfl⟩)); go_simp; refine hK _ ?_; clear hK K)
    refine ordQ_two rfl rfl rfl rfl (fun K hK => ?_) (fun K hK => ?_)
    · gi_wp2
      refine hK _ _ (fun _ => by (repeat' (first | assumption | exact Below.refl _ _ | refine Below.drew ?_ | refine below_drewN ?_ _ | refine Below.setCell ?_ (by first | omega | (simp; done) | (simp; omega)) _ | refine Below.alloc ?_ (by first | omega | (simp; done) | (simp; omega)) _ | refine Below.trans ?_ (Below.mono (by assumption) (by first | omega | (simp; done) | (simp; omega)))))) ?_
      clear hK K
      refine ordQ_hv rfl rfl rfl (fun K hK => ?_)
      gi_wp2
      refine hK _ _ (fun _ => by (repeat' (first | assumption | exact Below.refl _ _ | refine Below.drew ?_ | refine below_drewN ?_ _ | refine Below.setCell ?_ (by first | omega | (simp; done) | (simp; omega)) _ | refine Below.alloc ?_ (by first | omega | (simp; done) | (simp; omega)) _ | refine Below.trans ?_ (Below.mono (by assumption) (by first | omega | (simp; done) | (simp; omega)))))) ?_
      clear hK K
      (refine ordQ_li rfl rfl rfl (fun K hK => ?_); go_simp; refine hK _ ?_; clear hK K)
      refine ordQ_hv rfl rfl rfl (fun K hK => ?_)
      gi_wp2
      refine hK _ _ (fun _ => by (repeat' (first | assumption | exact Below.refl _ _ | refine Below.drew ?_ | refine below_drewN ?_ _ | refine Below.setCell ?_ (by first | omega | (simp; done) | (simp; omega)) _ | refine Below.alloc ?_ (by first | omega | (simp; done) | (simp; omega)) _ | refine Below.trans ?_ (Below.mono (by assumption) (by first | omega | (simp; done) | (simp; omega)))))) ?_
      clear hK K
      (refine ordQ_li rfl rfl rfl (fun K hK => ?_); go_simp; refine hK _ ?_; clear hK K)
      have x1 := ((Box.new w1.drew (List.replicate v.rm.length (I 0)) 3).alloc (.map #[] 0)).alloc (.cells #[Value.slice A1 v.rm.length q1, .slice A2 v.tr.length q2, .slice A3 v.ar.length q3, .slice (some ⟨w.heap.size + 1, 0, none⟩) v.rm.length v.rm.length, .map (some (w.heap.size + 1 + 1))] 68)
      have x2 : Box (((w1.drew.alloc (.cells (List.replicate v.rm.length (I 0)).toArray 3)).alloc (.map #[] 0)).alloc (.cells #[Value.slice A1 v.rm.length q1, .slice A2 v.tr.length q2, .slice A3 v.ar.length q3, .slice (some ⟨w.heap.size + 1, 0, none⟩) v.rm.length v.rm.length, .map (some (w.heap.size + 1 + 1))] 68)) _ _ := Box.new ((w1.drew.alloc (.cells (List.replicate v.rm.length (I 0)).toArray 3)).alloc (.map #[] 0)) [Value.slice A1 v.rm.length q1, .slice A2 v.tr.length q2, .slice A3 v.ar.length q3, .slice (some ⟨w.heap.size + 1, 0, none⟩) v.rm.length v.rm.length, .map (some (w.heap.size + 1 + 1))] 68
      have x3 := (MapAt.new (w1.drew.alloc (.cells (List.replicate v.rm.length (I 0)).toArray 3)) Tryd.prog 46).alloc (.cells #[Value.slice A1 v.rm.length q1, .slice A2 v.tr.length q2, .slice A3 v.ar.length q3, .slice (some ⟨w.heap.size + 1, 0, none⟩) v.rm.length v.rm.length, .map (some (w.heap.size + 1 + 1))] 68)
      have xb : Below w1.heap.size w1 (((w1.drew.alloc (.cells (List.replicate v.rm.length (I 0)).toArray 3)).alloc (.map #[] 0)).alloc (.cells #[Value.slice A1 v.rm.length q1, .slice A2 v.tr.length q2, .slice A3 v.ar.length q3, .slice (some ⟨w.heap.size + 1, 0, none⟩) v.rm.length v.rm.length, .map (some (w.heap.size + 1 + 1))] 68)) := by (repeat' (first | assumption | exact Below.refl _ _ | refine Below.drew ?_ | refine below_drewN ?_ _ | refine Below.setCell ?_ (by first | omega | (simp; done) | (simp; omega)) _ | refine Below.alloc ?_ (by first | omega | (simp; done) | (simp; omega)) _ | refine Below.trans ?_ (Below.mono (by assumption) (by first | omega | (simp; done) | (simp; omega)))))
      have x4 := hb1.call xb
      have xc := hB1.trans (xb.mono (by omega))
      simp only [World.size_alloc, World.size_drew, hsz] at x1 x2 x3
      refine ordQ_fin ⟨rfl, w.heap.size + 1 + 1 + 1, w.heap.size + 1, w.heap.size + 1 + 1, rfl, xc, x4, ⟨x2, ?_, by simp, ⟨by omega, by omega, by omega⟩, ⟨0, _, x3, fun _ _ _ _ => rfl⟩, by omega, by omega, by omega⟩⟩
      rw [List.map_replicate]
      exact x1
    · gi_wp2
      refine hK _ _ (fun _ => by (repeat' (first | assumption | exact Below.refl _ _ | refine Below.drew ?_ | refine below_drewN ?_ _ | refine Below.setCell ?_ (by first | omega | (simp; done) | (simp; omega)) _ | refine Below.alloc ?_ (by first | omega | (simp; done) | (simp; omega)) _ | refine Below.trans ?_ (Below.mono (by assumption) (by first | omega | (simp; done) | (simp; omega)))))) ?_
      clear hK K
      refine ordQ_hv rfl rfl rfl (fun K hK => ?_)
      gi_wp2
      refine hK _ _ (fun _ => by (repeat' (first | assumption | exact Below.refl _ _ | refine Below.drew ?_ | refine below_drewN ?_ _ | refine Below.setCell ?_ (by first | omega | (simp; done) | (simp; omega)) _ | refine Below.alloc ?_ (by first | omega | (simp; done) | (simp; omega)) _ | refine Below.trans ?_ (Below.mono (by assumption) (by first | omega | (simp; done) | (simp; omega)))))) ?_
      clear hK K
      (refine ordQ_li rfl rfl rfl (fun K hK => ?_); go_simp; refine hK _ ?_; clear hK K)
      refine ordQ_hv rfl rfl rfl (fun K hK => ?_)
      gi_wp2
      refine hK _ _ (fun _ => by (repeat' (first | assumption | exact Below.refl _ _ | refine Below.drew ?_ | refine below_drewN ?_ _ | refine Below.setCell ?_ (by first | omega | (simp; done) | (simp; omega)) _ | refine Below.alloc ?_ (by first | omega | (simp; done) | (simp; omega)) _ | refine Below.trans ?_ (Below.mono (by assumption) (by first | omega | (simp; done) | (simp; omega)))))) ?_
      clear hK K
      (refine ordQ_li rfl rfl rfl (fun K hK => ?_); go_simp; refine hK _ ?_; clear hK K)
      have x1 := (Box.new (w1.drew.alloc (.map #[] 0)) (List.replicate v.rm.length (I 0)) 3).alloc (.cells #[Value.slice A1 v.rm.length q1, .slice A2 v.tr.length q2, .slice A3 v.ar.length q3, .slice (some ⟨w.heap.size + 1 + 1, 0, none⟩) v.rm.length v.rm.length, .map (some (w.heap.size + 1))] 68)
      have x2 : Box (((w1.drew.alloc (.map #[] 0)).alloc (.cells (List.replicate v.rm.length (I 0)).toArray 3)).alloc (.cells #[Value.slice A1 v.rm.length q1, .slice A2 v.tr.length q2, .slice A3 v.ar.length q3, .slice (some ⟨w.heap.size + 1 + 1, 0, none⟩) v.rm.length v.rm.length, .map (some (w.heap.size + 1))] 68)) _ _ := Box.new ((w1.drew.alloc (.map #[] 0)).alloc (.cells (List.replicate v.rm.length (I 0)).toArray 3)) [Value.slice A1 v.rm.length q1, .slice A2 v.tr.length q2, .slice A3 v.ar.length q3, .slice (some ⟨w.heap.size + 1 + 1, 0, none⟩) v.rm.length v.rm.length, .map (some (w.heap.size + 1))] 68
      have x3 := ((MapAt.new w1.drew Tryd.prog 46).alloc (.cells (List.replicate v.rm.length (I 0)).toArray 3)).alloc (.cells #[Value.slice A1 v.rm.length q1, .slice A2 v.tr.length q2, .slice A3 v.ar.length q3, .slice (some ⟨w.heap.size + 1 + 1, 0, none⟩) v.rm.length v.rm.length, .map (some (w.heap.size + 1))] 68)
      have xb : Below w1.heap.size w1 (((w1.drew.alloc (.map #[] 0)).alloc (.cells (List.replicate v.rm.length (I 0)).toArray 3)).alloc (.cells #[Value.slice A1 v.rm.length q1, .slice A2 v.tr.length q2, .slice A3 v.ar.length q3, .slice (some ⟨w.heap.size + 1 + 1, 0, none⟩) v.rm.length v.rm.length, .map (some (w.heap.size + 1))] 68)) := by (repeat' (first | assumption | exact Below.refl _ _ | refine Below.drew ?_ | refine below_drewN ?_ _ | refine Below.setCell ?_ (by first | omega | (simp; done) | (simp; omega)) _ | refine Below.alloc ?_ (by first | omega | (simp; done) | (simp; omega)) _ | refine Below.trans ?_ (Below.mono (by assumption) (by first | omega | (simp; done) | (simp; omega)))))
      have x4 := hb1.call xb
      have xc := hB1.trans (xb.mono (by omega))
      simp only [World.size_alloc, World.size_drew, hsz] at x1 x2 x3
      refine ordQ_fin ⟨rfl, w.heap.size + 1 + 1 + 1, w.heap.size + 1 + 1, w.heap.size + 1, rfl, xc, x4, ⟨x2, ?_, by simp, ⟨by omega, by omega, by omega⟩, ⟨0, _, x3, fun _ _ _ _ => rfl⟩, by omega, by omega, by omega⟩⟩
      rw [List.map_replicate]
      exact x1
  rintro e a' w2 ⟨rfl, db, tb, mb, rfl, hB2, hb2, HD⟩
  have HB2 := Lib.hid (And.intro hB2 (And.intro hb2 HD))
  have x2 := (hb2.at_ 2 _ rfl).1
  clear hB2 hb2 HD hms hmk hb1 hB1 HC
  go_wp2_with (fail)
  go_loopw [17] (fun i wr => ∃ k : Nat, i = I k ∧ k ≤ v.ar.length ∧ Hid (Below w.heap.size w wr ∧ DayAt wr (w.heap.size + 1) v A1 A2 A3 q1 q2 q3 db tb mb (List.replicate v.rm.length 0) (fun p t => arrTo v p t k))) (fun i _ => v.ar.length - (intOf i).toNat)
  case atStart => exact ⟨0, rfl, by omega, Lib.hid ⟨HB2.out.1, by simpa [arrTo, lsum] using HB2.out.2.2⟩⟩
  case round =>
    obtain ⟨k, rfl, hk, HW⟩ := hrel
    clear HB2 x2
    by_cases hlt : k < v.ar.length
    · have hwk : IntKind.i64.wrap ((k : Int) + 1) = (k : Int) + 1 := IntWalk.i64_in _ (by omega)
      have hD := HW.out.2
      have hIw := HI.out.below HW.out.1
      have hsz := HW.out.1.size
      obtain ⟨rb, ro, rfl, hrb, hc⟩ := hIw.ar (by omega)
      obtain ⟨c0, c1, c2⟩ := hc k hlt
      have har := HV.out.ar _ (List.getElem_mem hlt)
      have HSU := Lib.hid fun q t => arrTo_succ v q t hlt
      have HLE := Lib.hid fun q t => arrTo_le HV.out q t k hk
      clear hc hIw
      obtain ⟨f, hf⟩ : ∃ z, v.ar[k].1 = z := ⟨_, rfl⟩
      obtain ⟨g, hg⟩ : ∃ z, v.ar[k].2.1 = z := ⟨_, rfl⟩
      obtain ⟨d, hd⟩ : ∃ z, v.ar[k].2.2 = z := ⟨_, rfl⟩
      rw [hf] at c0
      rw [hg] at c1
      rw [hd] at c2
      rw [hf, hg, hd] at HSU har
      clear hf hg hd
      obtain ⟨mi, rfl⟩ : ∃ z : Nat, f = (z : Int) := ⟨f.toNat, by omega⟩
      obtain ⟨pl, rfl⟩ : ∃ z : Nat, g = (z : Int) := ⟨g.toNat, by omega⟩
      have k0 : (0 : Int) ≤ (k : Int) := by omega
      have k1 : (k : Int) < (v.ar.length : Int) := by omega
      obtain ⟨N, fm, hm1, hm2⟩ := hD.map
      have hvn : (v.n : Int) ≤ 8 := by unfold Vis.n; omega
      obtain ⟨sm, hsm⟩ : ∃ z, arrTo v pl mi k = z := ⟨_, rfl⟩
      have hle := HLE.out pl mi
      rw [hsm] at hle
      have hg0 : (fm (sd pl mi)).getD (I 0) = I sm := by rw [← hsm]; exact hm2 pl mi (by omega) (by omega)
      have hwa : IntKind.i64.wrap (sm + d) = sm + d := IntWalk.i64_in _ (by omega)
      have hky : IsK Tryd.prog 46 (sd pl mi) := isK46 ⟨by omega, by omega⟩ ⟨by omega, by omega⟩
      clear hk
      go_wp2_with (fail)
      have hbx := hD.box
      have hbl := hD.lo
      have hne := hD.ne
      have hmb := hm1.lt
      have HCC : Hid (∀ W, (fun W => Box W wr.heap.size [I mi, I pl, I d] ∧ Box W db [.slice A1 v.rm.length q1, .slice A2 v.tr.length q2, .slice (some ⟨rb, ro, none⟩) v.ar.length q3, .slice (some ⟨tb, 0, none⟩) v.rm.length v.rm.length, .map (some mb)] ∧ ∃ n f, MapAt Tryd.prog 46 W mb n f ∧ (f (sd pl mi)).getD (I 0) = I sm) W → (W.cell? ⟨wr.heap.size, 0, none⟩ = some (I mi) ∧ W.cell? ⟨wr.heap.size, 1, none⟩ = some (I pl) ∧ W.cell? ⟨wr.heap.size, 2, none⟩ = some (I d)) ∧ W.cell? ⟨db, 4, none⟩ = some (.map (some mb)) ∧ (Instr.lookup 66 (.map (some mb)) (sd pl mi) false).run Tryd.prog W = .ok (I sm) W) := Lib.hid fun W h => by
        obtain ⟨h1, h2, n, f, h3, h4⟩ := h
        exact ⟨⟨(h1.at_ 0 _ rfl).1, (h1.at_ 1 _ rfl).1, (h1.at_ 2 _ rfl).1⟩, (h2.at_ 4 _ rfl).1, by rw [h3.lookup lawS Tryd.underlying66 (zero3 W) hky, h4]⟩
      have hA : Below wr.heap.size wr (wr.alloc (.cells #[I mi, I pl, I d] 49)) := by (repeat' (first | assumption | exact Below.refl _ _ | refine Below.drew ?_ | refine below_drewN ?_ _ | refine Below.setCell ?_ (by first | omega | (simp; done) | (simp; omega)) _ | refine Below.alloc ?_ (by first | omega | (simp; done) | (simp; omega)) _ | refine Below.trans ?_ (Below.mono (by assumption) (by first | omega | (simp; done) | (simp; omega)))))
      have hC0 : (fun W => Box W wr.heap.size [I mi, I pl, I d] ∧ Box W db [.slice A1 v.rm.length q1, .slice A2 v.tr.length q2, .slice (some ⟨rb, ro, none⟩) v.ar.length q3, .slice (some ⟨tb, 0, none⟩) v.rm.length v.rm.length, .map (some mb)] ∧ ∃ n f, MapAt Tryd.prog 46 W mb n f ∧ (f (sd pl mi)).getD (I 0) = I sm) (wr.alloc (.cells #[I mi, I pl, I d] 49)).drew := ⟨(Box.new wr [I mi, I pl, I d] 49).drew, (hbx.call hA).drew, N, fm, (hm1.below hA hmb).drew, hg0⟩
      refine (wpIn_wide (n := 9)).1 ?_
      refine wpIn_region_plan (Plan.ons [0, 1, 2, 3, 4, 5, 6, 7, 8, 9, 10, 11, 12, 13, 14, 15] .fin) [0, 1, 2, 3, 4, 5, 6, 7, 8, 9, 10, 11, 12] (fun W => Box W wr.heap.size [I mi, I pl, I d] ∧ Box W db [.slice A1 v.rm.length q1, .slice A2 v.tr.length q2, .slice (some ⟨rb, ro, none⟩) v.ar.length q3, .slice (some ⟨tb, 0, none⟩) v.rm.length v.rm.length, .map (some mb)] ∧ ∃ n f, MapAt Tryd.prog 46 W mb n f ∧ (f (sd pl mi)).getD (I 0) = I sm) [15] rfl (by kernel_rfl) (by kernel_rfl) (fun _ d _ _ _ h => by cases d <;> exact h) hC0 ?_
      (refine ordQ_held (ptr db) rfl rfl rfl rfl (fun W' hC' => ?_) (fun K hK => ?_); (focus (obtain ⟨⟨c0, c1, c2⟩, c4, cl⟩ := HCC.out _ hC'; go_simp; try exact ⟨rfl, rfl⟩)); go_simp; refine hK _ ?_; clear hK K)
      (refine ordQ_held (ptr db) rfl rfl rfl rfl (fun W' hC' => ?_) (fun K hK => ?_); (focus (obtain ⟨⟨c0, c1, c2⟩, c4, cl⟩ := HCC.out _ hC'; go_simp; try exact ⟨rfl, rfl⟩)); go_simp; refine hK _ ?_; clear hK K)
      (refine ordQ_held (.pointer (some ⟨db, 4, none⟩)) rfl rfl rfl rfl (fun W' hC' => ?_) (fun K hK => ?_); (focus (obtain ⟨⟨c0, c1, c2⟩, c4, cl⟩ := HCC.out _ hC'; go_simp; try exact ⟨rfl, rfl⟩)); go_simp; refine hK _ ?_; clear hK K)
      (refine ordQ_held (.map (some mb)) rfl rfl rfl rfl (fun W' hC' => ?_) (fun K hK => ?_); (focus (obtain ⟨⟨c0, c1, c2⟩, c4, cl⟩ := HCC.out _ hC'; go_simp; try exact ⟨rfl, rfl⟩)); go_simp; refine hK _ ?_; clear hK K)
      (refine ordQ_held (.pointer (some ⟨wr.heap.size, 1, none⟩)) rfl rfl rfl rfl (fun W' hC' => ?_) (fun K hK => ?_); (focus (obtain ⟨⟨c0, c1, c2⟩, c4, cl⟩ := HCC.out _ hC'; go_simp; try exact ⟨rfl, rfl⟩)); go_simp; refine hK _ ?_; clear hK K)
      (refine ordQ_held (I pl) rfl rfl rfl rfl (fun W' hC' => ?_) (fun K hK => ?_); (focus (obtain ⟨⟨c0, c1, c2⟩, c4, cl⟩ := HCC.out _ hC'; go_simp; try exact ⟨rfl, rfl⟩)); go_simp; refine hK _ ?_; clear hK K)
      (refine ordQ_held (.pointer (some ⟨wr.heap.size, 0, none⟩)) rfl rfl rfl rfl (fun W' hC' => ?_) (fun K hK => ?_); (focus (obtain ⟨⟨c0, c1, c2⟩, c4, cl⟩ := HCC.out _ hC'; go_simp; try exact ⟨rfl, rfl⟩)); go_simp; refine hK _ ?_; clear hK K)
      (refine ordQ_held (I mi) rfl rfl rfl rfl (fun W' hC' => ?_) (fun K hK => ?_); (focus (obtain ⟨⟨c0, c1, c2⟩, c4, cl⟩ := HCC.out _ hC'; go_simp; try exact ⟨rfl, rfl⟩)); go_simp; refine hK _ ?_; clear hK K)
      (refine ordQ_held (sd pl mi) rfl rfl rfl rfl (fun W' hC' => ?_) (fun K hK => ?_); (focus (obtain ⟨⟨c0, c1, c2⟩, c4, cl⟩ := HCC.out _ hC'; go_simp; try exact ⟨rfl, rfl⟩)); go_simp; refine hK _ ?_; clear hK K)
      (refine ordQ_held (I sm) rfl rfl rfl rfl (fun W' hC' => ?_) (fun K hK => ?_); (focus (obtain ⟨⟨c0, c1, c2⟩, c4, cl⟩ := HCC.out _ hC'; go_simp; try exact ⟨rfl, rfl⟩)); go_simp; refine hK _ ?_; clear hK K)
      (refine ordQ_held (.pointer (some ⟨wr.heap.size, 2, none⟩)) rfl rfl rfl rfl (fun W' hC' => ?_) (fun K hK => ?_); (focus (obtain ⟨⟨c0, c1, c2⟩, c4, cl⟩ := HCC.out _ hC'; go_simp; try exact ⟨rfl, rfl⟩)); go_simp; refine hK _ ?_; clear hK K)
      (refine ordQ_held (I d) rfl rfl rfl rfl (fun W' hC' => ?_) (fun K hK => ?_); (focus (obtain ⟨⟨c0, c1, c2⟩, c4, cl⟩ := HCC.out _ hC'; go_simp; try exact ⟨rfl, rfl⟩)); go_simp; refine hK _ ?_; clear hK K)
      (refine ordQ_held (I (sm + d)) rfl rfl rfl rfl (fun W' hC' => ?_) (fun K hK => ?_); (focus (obtain ⟨⟨c0, c1, c2⟩, c4, cl⟩ := HCC.out _ hC'; go_simp; try exact ⟨rfl, rfl⟩)); go_simp; refine hK _ ?_; clear hK K)
      refine ordQ_hv rfl rfl rfl (fun K hK => ?_)
      refine opIn_entry_at _ rfl _ _ _ rfl 3 lawS Tryd.underlying66 zero3 mb N fm rfl (hm1.below hA hmb).drew (sd pl mi) rfl hky (I sm) hg0 ?_
      intro w5 st5 he5 hg5 hz5
      refine hK _ _ (fun _ => ⟨hC0.1.grown hg5 (fun e => by have := Option.some.inj e; omega), hC0.2.1.grown hg5 (fun e => by have := Option.some.inj e; omega), _, _, he5.map, by rw [putF_same]; rfl⟩) ?_
      clear hK K
      (refine ordQ_li rfl rfl rfl (fun K hK => ?_); go_simp; refine hK _ ?_; clear hK K)
      refine ordQ_hv rfl rfl rfl (fun K hK => ?_)
      refine opIn_put_at _ rfl _ _ _ _ rfl mb (N + 1) st5 _ (sd pl mi) rfl he5 rfl (I (sm + d)) rfl ?_
      intro w6 hm6 hg6 hz6
      refine hK _ _ (fun h => by cases h) ?_
      clear hK K
      refine ordQ_fin ?_
      have HN : Hid (Below w.heap.size w w6 ∧ DayAt w6 (w.heap.size + 1) v A1 A2 (some ⟨rb, ro, none⟩) q1 q2 q3 db tb mb (List.replicate v.rm.length 0) (fun p t => arrTo v p t (k + 1))) := Lib.hid (by
        have b1 := hD.box.call hA
        have b2 := hD.th.call hA
        have b0 := (HW.out.1.trans (hA.mono hsz)).drew
        have z0 := b0.size
        have z5 := hg5.size
        have b3 : Below w.heap.size w w6 := (b0.grown hg5 z0 (fun r e => by have := Option.some.inj e; omega)).grown hg6 (by omega) (fun r e => by have := Option.some.inj e; omega)
        refine ⟨b3, (b1.drew.grown hg5 (fun e => by have := Option.some.inj e; omega)).grown hg6 (fun e => by have := Option.some.inj e; omega), (b2.drew.grown hg5 (fun e => by have := Option.some.inj e; omega)).grown hg6 (fun e => by have := Option.some.inj e; omega), hD.len, hne, ⟨N + 1, _, hm6, ?_⟩, hbl⟩
        rw [putF_twice]
        refine (hm2.put pl mi (sm + d)).congr fun p t => ?_
        rw [HSU.out]
        by_cases e : p = pl ∧ t = mi
        · rw [if_pos e, if_pos ⟨by omega, by omega⟩, e.1, e.2, hsm]
        · rw [if_neg e, if_neg (fun h => e ⟨by omega, by omega⟩)]; omega)
      clear hm6 hg6 hz6 he5 hg5 hz5 hC0 HCC hm1 hm2 hD HSU HLE hbx HW
      go_wp2_with (fail)
      go_roundw
      case rel => exact ⟨k + 1, by go_num, by omega, HN⟩
      case measure => simp [intOf]; omega
    · obtain rfl : k = v.ar.length := by omega
      have HE := Lib.hid fun p t => arrTo_all v p t
      go_wp2_with (fail)
      go_ret
      exact ⟨db, tb, mb, rfl, HW.out.1, by
        have := HW.out.2
        simp only [HE.out] at this
        exact ⟨this.box, this.th, this.len, this.ne, this.map, by have := this.lo; omega⟩⟩
end Go.Proofs.YtomfnldlnoiloaaDoor
