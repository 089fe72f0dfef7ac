/- flows: the walk down. -/
import Derived.Test.YtgdilbilhajgaaaDoorE8
namespace Go.Proofs.YtgdilbilhajgaaaDoor
set_option linter.unusedVariables false
set_option linter.unusedSimpArgs false
open Go Go.RowKit

/-- The memory of flows: its boxes, the spans, whether all is right. -/
structure FlMem (W : World) (N tb T ofb sb S rb n : Nat) (sl : List (Int × Int)) (rr : Bool) : Prop where
  lo : N ≤ tb ∧ N ≤ ofb ∧ N ≤ sb ∧ N ≤ S ∧ N ≤ rb
  hi : tb < W.heap.size ∧ ofb < W.heap.size ∧ sb < W.heap.size ∧ rb < W.heap.size
  ne : tb ≠ S ∧ ofb ≠ S ∧ sb ≠ S ∧ rb ≠ S ∧ tb ≠ rb ∧ ofb ≠ rb ∧ sb ≠ rb
  tbc : W.cell? ⟨tb, 0, none⟩ = some (.pointer (some ⟨T, 0, none⟩))
  ofc : W.cell? ⟨ofb, 0, none⟩ = some (.func (.func 59) #[] #[.pointer (some ⟨sb, 0, none⟩)])
  sbc : W.cell? ⟨sb, 0, none⟩ = some (.slice (some ⟨S, 0, none⟩) n n)
  len : sl.length = n
  sp : SpB W S sl
  rbc : W.cell? ⟨rb, 0, none⟩ = some (.bool rr)
  rbf : W.frozen? ⟨rb, 0, none⟩ = false
section
variable {W W' : World} {N tb T ofb sb S rb n : Nat} {sl : List (Int × Int)} {rr : Bool}
theorem FlMem.call (h : FlMem W N tb T ofb sb S rb n sl rr) (hB : Below W.heap.size W W') : FlMem W' N tb T ofb sb S rb n sl rr := by
  obtain ⟨h1, ⟨a1, a2, a3, a4⟩, h3, h4, h5, h6, h7, h8, h9, h10⟩ := h
  have hz := hB.size
  exact ⟨h1, ⟨by omega, by omega, by omega, by omega⟩, h3, (hB.cell (p := ⟨_, _, none⟩) a1).trans h4, (hB.cell (p := ⟨_, _, none⟩) a2).trans h5, (hB.cell (p := ⟨_, _, none⟩) a3).trans h6, h7, h8.call hB, (hB.cell (p := ⟨_, _, none⟩) a4).trans h9, (hB.frozen (p := ⟨_, _, none⟩) a4).trans h10⟩
theorem FlMem.set (h : FlMem W N tb T ofb sb S rb n sl rr) (k : Nat) (hk : k < n) (x y : Int) : FlMem ((W.setCell ⟨S, k * 2, none⟩ (I x)).setCell ⟨S, k * 2 + 1, none⟩ (I y)) N tb T ofb sb S rb n (sl.set k (x, y)) rr := by
  obtain ⟨h1, h2, ⟨b1, b2, b3, b4, b5, b6, b7⟩, h4, h5, h6, h7, h8, h9, h10⟩ := h
  have hc : ∀ (g : Nat), g ≠ S → ((W.setCell ⟨S, k * 2, none⟩ (I x)).setCell ⟨S, k * 2 + 1, none⟩ (I y)).cell? ⟨g, 0, none⟩ = W.cell? ⟨g, 0, none⟩ := fun g hg => by
    rw [World.cell?_setCell_other _ _ _ _ (fun e => hg (by injection e with e; exact e.symm)), World.cell?_setCell_other _ _ _ _ (fun e => hg (by injection e with e; exact e.symm))]
  exact ⟨h1, by simpa using h2, ⟨b1, b2, b3, b4, b5, b6, b7⟩, (hc _ b1).trans h4, (hc _ b2).trans h5, (hc _ b3).trans h6, by simpa using h7, h8.set k (by omega) x y, (hc _ b4).trans h9, by simpa using h10⟩
theorem FlMem.setR (h : FlMem W N tb T ofb sb S rb n sl rr) (r : Bool) : FlMem (W.setCell ⟨rb, 0, none⟩ (.bool r)) N tb T ofb sb S rb n sl r := by
  obtain ⟨h1, h2, ⟨b1, b2, b3, b4, b5, b6, b7⟩, h4, h5, h6, h7, h8, h9, h10⟩ := h
  have hc : ∀ (g : Nat), g ≠ rb → (W.setCell ⟨rb, 0, none⟩ (.bool r)).cell? ⟨g, 0, none⟩ = W.cell? ⟨g, 0, none⟩ := fun g hg => by
    rw [World.cell?_setCell_other _ _ _ _ (fun e => hg (by injection e with e; exact e.symm))]
  exact ⟨h1, by simpa using h2, ⟨b1, b2, b3, b4, b5, b6, b7⟩, (hc _ b5).trans h4, (hc _ b6).trans h5, (hc _ b7).trans h6, h7, h8.far (p := ⟨rb, 0, none⟩) b4 _, World.cell?_setCell_same _ _ _ h9, by simpa using h10⟩
end
theorem box_call {w w2 w3 : World} {a b : Int} (h2 : Below (w.alloc (.cells #[.int .i64 a, .int .i64 b] 68)).heap.size (w.alloc (.cells #[.int .i64 a, .int .i64 b] 68)) w2) (h3 : Below w2.heap.size w2 w3) :
    w3.cell? ⟨w.heap.size, 0, none⟩ = some (I a) ∧ w3.cell? ⟨w.heap.size, 1, none⟩ = some (I b) ∧ w3.frozen? ⟨w.heap.size, 0, none⟩ = false ∧ w3.frozen? ⟨w.heap.size, 1, none⟩ = false := by
  have h := h2.trans (h3.mono h2.size)
  exact ⟨(h.cell (p := ⟨_, _, none⟩) (by simp)).trans (by simp [go_sem]), (h.cell (p := ⟨_, _, none⟩) (by simp)).trans (by simp [go_sem]), (h.frozen (p := ⟨_, _, none⟩) (by simp)).trans (by simp [go_sem]), (h.frozen (p := ⟨_, _, none⟩) (by simp)).trans (by simp [go_sem])⟩
def ownL (m : List (Int × Int)) (sl : List (Int × Int)) (i : Nat) : Int × Int := if kids m i = [] then (0, 100) else plusW ((kids m i).map fun k => sl.getD k (0, 0))
def newL (m : List (Int × Int)) (sl : List (Int × Int)) (i : Nat) : Int × Int := andS (sl.getD i (0, 0)) (ownL m sl i)

set_option maxRecDepth 100000 in
set_option maxHeartbeats 4000000 in
theorem clo60 (N tb T ofb sb S rb : Nat) (A : Option Addr) (c : Nat) (m : List (Int × Int)) (sl : List (Int × Int)) (rr : Bool) (i : Nat) (hi : i < m.length) (w : World) (hM : FlMem w N tb T ofb sb S rb m.length sl rr) (hT : TreeAt w T A c m) :
    Calls Tryd.prog 60 #[I i, .pointer (some ⟨tb, 0, none⟩), .pointer (some ⟨ofb, 0, none⟩), .pointer (some ⟨sb, 0, none⟩), .pointer (some ⟨rb, 0, none⟩)] w fun e w' =>
      e = .returned (.tuple #[]) ∧ FlMem w' N tb T ofb sb S rb m.length (sl.set i (newL m sl i)) (rr && decide ((newL m sl i).1 ≤ (newL m sl i).2)) ∧ Frm w.heap.size (fun b => b = S ∨ b = rb) w w' := by
  have HM := Lib.hid hM
  have HT := Lib.hid hT
  obtain ⟨⟨l1, l2, l3, l4, l5⟩, ⟨z1, z2, z3, z4⟩, hne, c1, c2, c3, hlen, hsp, c4, c5⟩ := hM
  have hTz := hT.hT
  obtain ⟨Fb, hFz, f1, hrow⟩ := hT.from_
  obtain ⟨RA, rc, r1, r2, r3, r4⟩ := hrow i hi
  have hn16 := hT.ok.le
  have hkl : (kids m i).length ≤ 16 := Nat.le_trans (by have := List.length_filter_le (fun k => decide (parW m k = (i : Int))) (List.range m.length); simpa [kids] using this) hn16
  have hin : i < sl.length := by rw [hlen]; exact hi
  obtain ⟨q0, q1, _, _⟩ := hsp.2 i hin
  have hq : sl.getD i (0, 0) = sl[i]'hin := by simp [List.getD, hin]
  rw [← hq] at q0 q1
  have hof := fun W (hB : Below w.heap.size w W) => of59 sb S m.length m.length sl hlen RA rc (kids m i) W (fun k hk => kids_lt hk) (by omega) ((r4.below hB).more hB.size) (by have := hB.size; omega) ((hB.cell (p := ⟨_, _, none⟩) z3).trans c3) (hsp.call hB)
  have HOF := Lib.hid hof
  have HNL : Hid (newL m sl i = (max (sl.getD i (0, 0)).1 (ownL m sl i).1, min (sl.getD i (0, 0)).2 (ownL m sl i).2)) := rfl
  have b0 : (0 : Int) ≤ (i : Int) := by omega
  have b1 : (i : Int) < (m.length : Int) := by omega
  have HIN := Lib.hid hin
  have HQ := Lib.hid hq
  clear hT hrow hq hof r4 hne
  have hsz := hsp.1
  generalize sl.getD i (0, 0) = q at *
  obtain ⟨qa, qb⟩ := q
  simp only at q0 q1
  cases hk : decide (0 < (kids m i).length) with
  | false =>
    have hk0 : kids m i = [] := List.eq_nil_of_length_eq_zero (by have := of_decide_eq_false hk; omega)
    have ho : ownL m sl i = (0, 100) := by simp [ownL, hk0]
    rw [ho] at HNL
    clear ho hk0
    go_enter Tryd.func60, Tryd.ntmps60
    go_wp2_with (fail)
    have hBz : Below w.heap.size w (w.alloc (.cells #[Value.int .i64 0, Value.int .i64 100] 68)) := (Below.refl _ _).alloc (Nat.le_refl _) _
    have hbox : (w.alloc (.cells #[Value.int .i64 0, Value.int .i64 100] 68)).cell? ⟨w.heap.size, 0, none⟩ = some (I 0) ∧ (w.alloc (.cells #[Value.int .i64 0, Value.int .i64 100] 68)).cell? ⟨w.heap.size, 1, none⟩ = some (I 100) ∧ w.heap.size < (w.alloc (.cells #[Value.int .i64 0, Value.int .i64 100] 68)).heap.size := by simp [go_sem]
    have HMZ := Lib.hid (HM.out.call hBz)
    generalize w.alloc (.cells #[Value.int .i64 0, Value.int .i64 100] 68) = wz at *
    obtain ⟨bx0, bx1, bxz⟩ := hbox
    have hzw := hBz.size
    obtain ⟨_, ⟨y1, y2, y3, y4⟩, _, d1, d2, d3, _, hspz, d4, d5⟩ := HMZ.out
    have hin2 : i < sl.length := HIN.out
    obtain ⟨p0, p1, p2, p3⟩ := hspz.2 i hin2
    have hszz := hspz.1
    rw [← HQ.out] at p0 p1
    simp only at p0 p1
    refine (wpIn_wide (n := 9)).1 ?_
    refine wpIn_region_plan (Plan.ons [0, 1, 2, 3, 4, 5, 6, 7, 8, 9] .fin) [0, 1] (fun W' => Below wz.heap.size wz W') [9] rfl (by kernel_rfl) (by kernel_rfl) (fun _ d _ _ _ h => by cases d <;> exact h) (Below.refl _ _).drew ?_
    (refine ordQ_held (.slice (some ⟨S, 0, none⟩) m.length m.length) rfl rfl rfl rfl (fun W' hC' => ?_) (fun K hK => ?_); (focus (obtain e3 := (hC'.cell (p := ⟨sb, 0, none⟩) y3).trans d3; go_simp; try exact ⟨rfl, rfl⟩)); go_simp; refine hK _ ?_; clear hK K)
    (refine ordQ_held (I i) rfl rfl rfl rfl (fun W' hC' => ?_) (fun K hK => ?_); (focus (obtain _ := d3; go_simp; try exact ⟨rfl, rfl⟩)); go_simp; refine hK _ ?_; clear hK K)
    iterate 5 (refine ordQ_li rfl rfl rfl (fun K hK => ?_); go_simp; refine hK _ ?_; clear hK K)
    refine ordQ_hv rfl rfl rfl (fun K hK => ?_)
    gi_wp2_with (refine And.intro trivial ?_; gi_at_call 62; refine callsIn_wide.2 ((and62 _ _ _ _ _).mono ?_); rintro e w5 ⟨rfl, hB5⟩)
    have hb5 : Below wz.heap.size wz w5 := by simpa using (Below.refl _ _).drew.trans hB5
    refine hK _ _ (fun _ => hb5) ?_
    clear hK K hB5
    (refine ordQ_li rfl rfl rfl (fun K hK => ?_); go_simp; refine hK _ ?_; clear hK K)
    have p0' := (hb5.cell (p := ⟨S, i * 2, none⟩) hszz).trans p0
    have p1' := (hb5.cell (p := ⟨S, i * 2 + 1, none⟩) hszz).trans p1
    have p2' := (hb5.frozen (p := ⟨S, i * 2, none⟩) hszz).trans p2
    have p3' := (hb5.frozen (p := ⟨S, i * 2 + 1, none⟩) hszz).trans p3
    have hM5 := (HMZ.out.call hb5).set i hi (max qa 0) (min qb 100)
    have hF5 : Frm w.heap.size (fun b => b = S ∨ b = rb) w ((w5.setCell ⟨S, i * 2, none⟩ (I (max qa 0))).setCell ⟨S, i * 2 + 1, none⟩ (I (min qb 100))) :=
      ((Frm.of_below (hBz.trans (hb5.mono hzw)) (Nat.le_refl _)).setCell (.inr (.inl rfl)) _).setCell (.inr (.inl rfl)) _
    refine ordQ_hv rfl rfl rfl (fun K hK => ?_)
    gi_wp2
    refine hK _ _ (fun h => by cases h) ?_
    clear hK K
    refine ordQ_fin ?_
    clear p0 p1 p2 p3 p0' p1' p2' p3' d1 d2 d3 d4 d5 c1 c2 c3 c4 c5 q0 q1 hspz hb5 HMZ
    generalize (w5.setCell ⟨S, i * 2, none⟩ (.int .i64 (max qa 0))).setCell ⟨S, i * 2 + 1, none⟩ (.int .i64 (min qb 100)) = w6 at *
    have HM6 := Lib.hid hM5
    have HF6 := Lib.hid hF5
    clear hF5
    obtain ⟨_, ⟨y1, y2, y3, y4⟩, _, d1, d2, d3, hl6, hspz, d4, d5⟩ := hM5
    obtain ⟨p0, p1, _, _⟩ := hspz.2 i (by rw [List.length_set]; exact hin2)
    have hszz6 := hspz.1
    simp only [List.getElem_set_self] at p0 p1
    clear hspz hl6
    generalize max qa 0 = va at *
    generalize min qb 100 = vb at *
    cases rr with
    | false =>
      go_wp2_with (first | (go_at_call 63; refine (empty63 _ _ _).mono ?_; rintro e w7 ⟨rfl, hB7⟩) | fail)
      refine bodyPost_end (results_none rfl _ _ _) rfl ⟨rfl, ?_, HF6.out.setCell (.inr (.inr rfl)) _⟩
      rw [HNL.out]
      exact HM6.out.setR _
    | true =>
      go_wp2_with (first | (go_at_call 63; refine (empty63 _ _ _).mono ?_; rintro e w7 ⟨rfl, hB7⟩; obtain ⟨g4, g5⟩ : w7.cell? ⟨rb, 0, none⟩ = some (.bool true) ∧ w7.frozen? ⟨rb, 0, none⟩ = false := ⟨(hB7.cell (p := ⟨_, _, none⟩) y4).trans d4, (hB7.frozen (p := ⟨_, _, none⟩) y4).trans d5⟩) | fail)
      refine bodyPost_end (results_none rfl _ _ _) rfl ⟨rfl, ?_, (HF6.out.then_ hB7 HF6.out.size).setCell (.inr (.inr rfl)) _⟩
      rw [HNL.out]
      have := (HM6.out.call hB7).setR (!decide (vb < va))
      rw [show (true && decide (va ≤ vb)) = !decide (vb < va) by rw [Bool.eq_iff_iff]; simp]
      exact this
  | true =>
    have hk0 : kids m i ≠ [] := fun e => by rw [e] at hk; simp at hk
    have ho : ownL m sl i = plusW ((kids m i).map fun k => sl.getD k (0, 0)) := by simp [ownL, hk0]
    have hpw := fun W A' c' (hx : Pairs W W.heap.size A' ((kids m i).map fun k => sl.getD k (0, 0))) => plus61 A' c' _ W hx (by simp; omega)
    simp only [List.length_map] at hpw
    rw [ho] at HNL
    have HPW := Lib.hid hpw
    clear ho hk0 hpw
    generalize plusW ((kids m i).map fun k => sl.getD k (0, 0)) = ow at *
    obtain ⟨oa, ob⟩ := ow
    go_enter Tryd.func60, Tryd.ntmps60
    go_wp2_with (first
      | (go_at_call 59; refine (HOF.out _ (by (repeat' (first | assumption | exact Below.refl _ _ | refine Below.drew ?_ | refine below_drewN ?_ _ | refine Below.setCell ?_ (by first | omega | (simp; done) | (simp; omega)) _ | refine Below.alloc ?_ (by first | omega | (simp; done) | (simp; omega)) _ | refine Below.trans ?_ (Below.mono (by assumption) (by first | omega | (simp; done) | (simp; omega))))))).mono ?_; rintro e w2 ⟨A2, c2', rfl, hP2, hB2⟩; have HP2 := Lib.hid hP2; clear hP2; have hz2 : w.heap.size < w2.heap.size := (by have := hB2.size; simp at this; omega))
      | (go_at_call 61; refine (HPW.out _ _ _ HP2.out).mono ?_; rintro e w3 ⟨rfl, hB3⟩; have hz3 : w.heap.size < w3.heap.size := (by have := hB3.size; omega); obtain ⟨g0, g1, g2, g3⟩ : w3.cell? ⟨w.heap.size, 0, none⟩ = some (I 0) ∧ w3.cell? ⟨w.heap.size, 1, none⟩ = some (I 100) ∧ w3.frozen? ⟨w.heap.size, 0, none⟩ = false ∧ w3.frozen? ⟨w.heap.size, 1, none⟩ = false := (box_call hB2 hB3))
      | fail)
    have hBz : Below w.heap.size w ((w3.setCell ⟨w.heap.size, 0, none⟩ (.int .i64 oa)).setCell ⟨w.heap.size, 1, none⟩ (.int .i64 ob)) := ((below_call (below_call (by (repeat' (first | assumption | exact Below.refl _ _ | refine Below.drew ?_ | refine below_drewN ?_ _ | refine Below.setCell ?_ (by first | omega | (simp; done) | (simp; omega)) _ | refine Below.alloc ?_ (by first | omega | (simp; done) | (simp; omega)) _ | refine Below.trans ?_ (Below.mono (by assumption) (by first | omega | (simp; done) | (simp; omega)))))) hB2) (hB3)).setCell (Nat.le_refl _) _).setCell (Nat.le_refl _) _
    have hbox : ((w3.setCell ⟨w.heap.size, 0, none⟩ (.int .i64 oa)).setCell ⟨w.heap.size, 1, none⟩ (.int .i64 ob)).cell? ⟨w.heap.size, 0, none⟩ = some (I oa) ∧ ((w3.setCell ⟨w.heap.size, 0, none⟩ (.int .i64 oa)).setCell ⟨w.heap.size, 1, none⟩ (.int .i64 ob)).cell? ⟨w.heap.size, 1, none⟩ = some (I ob) ∧ w.heap.size < ((w3.setCell ⟨w.heap.size, 0, none⟩ (.int .i64 oa)).setCell ⟨w.heap.size, 1, none⟩ (.int .i64 ob)).heap.size := by simp [go_sem, g0, g1, hz3]
    have HMZ := Lib.hid (HM.out.call hBz)
    clear g0 g1 g2 g3 hB2 hB3
    generalize (w3.setCell ⟨w.heap.size, 0, none⟩ (.int .i64 oa)).setCell ⟨w.heap.size, 1, none⟩ (.int .i64 ob) = wz at *
    obtain ⟨bx0, bx1, bxz⟩ := hbox
    have hzw := hBz.size
    obtain ⟨_, ⟨y1, y2, y3, y4⟩, _, d1, d2, d3, _, hspz, d4, d5⟩ := HMZ.out
    have hin2 : i < sl.length := HIN.out
    obtain ⟨p0, p1, p2, p3⟩ := hspz.2 i hin2
    have hszz := hspz.1
    rw [← HQ.out] at p0 p1
    simp only at p0 p1
    refine (wpIn_wide (n := 9)).1 ?_
    refine wpIn_region_plan (Plan.ons [0, 1, 2, 3, 4, 5, 6, 7, 8, 9] .fin) [0, 1] (fun W' => Below wz.heap.size wz W') [9] rfl (by kernel_rfl) (by kernel_rfl) (fun _ d _ _ _ h => by cases d <;> exact h) (Below.refl _ _).drew ?_
    (refine ordQ_held (.slice (some ⟨S, 0, none⟩) m.length m.length) rfl rfl rfl rfl (fun W' hC' => ?_) (fun K hK => ?_); (focus (obtain e3 := (hC'.cell (p := ⟨sb, 0, none⟩) y3).trans d3; go_simp; try exact ⟨rfl, rfl⟩)); go_simp; refine hK _ ?_; clear hK K)
    (refine ordQ_held (I i) rfl rfl rfl rfl (fun W' hC' => ?_) (fun K hK => ?_); (focus (obtain _ := d3; go_simp; try exact ⟨rfl, rfl⟩)); go_simp; refine hK _ ?_; clear hK K)
    iterate 5 (refine ordQ_li rfl rfl rfl (fun K hK => ?_); go_simp; refine hK _ ?_; clear hK K)
    refine ordQ_hv rfl rfl rfl (fun K hK => ?_)
    gi_wp2_with (refine And.intro trivial ?_; gi_at_call 62; refine callsIn_wide.2 ((and62 _ _ _ _ _).mono ?_); rintro e w5 ⟨rfl, hB5⟩)
    have hb5 : Below wz.heap.size wz w5 := by simpa using (Below.refl _ _).drew.trans hB5
    refine hK _ _ (fun _ => hb5) ?_
    clear hK K hB5
    (refine ordQ_li rfl rfl rfl (fun K hK => ?_); go_simp; refine hK _ ?_; clear hK K)
    have p0' := (hb5.cell (p := ⟨S, i * 2, none⟩) hszz).trans p0
    have p1' := (hb5.cell (p := ⟨S, i * 2 + 1, none⟩) hszz).trans p1
    have p2' := (hb5.frozen (p := ⟨S, i * 2, none⟩) hszz).trans p2
    have p3' := (hb5.frozen (p := ⟨S, i * 2 + 1, none⟩) hszz).trans p3
    have hM5 := (HMZ.out.call hb5).set i hi (max qa oa) (min qb ob)
    have hF5 : Frm w.heap.size (fun b => b = S ∨ b = rb) w ((w5.setCell ⟨S, i * 2, none⟩ (I (max qa oa))).setCell ⟨S, i * 2 + 1, none⟩ (I (min qb ob))) :=
      ((Frm.of_below (hBz.trans (hb5.mono hzw)) (Nat.le_refl _)).setCell (.inr (.inl rfl)) _).setCell (.inr (.inl rfl)) _
    refine ordQ_hv rfl rfl rfl (fun K hK => ?_)
    gi_wp2
    refine hK _ _ (fun h => by cases h) ?_
    clear hK K
    refine ordQ_fin ?_
    clear p0 p1 p2 p3 p0' p1' p2' p3' d1 d2 d3 d4 d5 c1 c2 c3 c4 c5 q0 q1 hspz hb5 HMZ
    generalize (w5.setCell ⟨S, i * 2, none⟩ (.int .i64 (max qa oa))).setCell ⟨S, i * 2 + 1, none⟩ (.int .i64 (min qb ob)) = w6 at *
    have HM6 := Lib.hid hM5
    have HF6 := Lib.hid hF5
    clear hF5
    obtain ⟨_, ⟨y1, y2, y3, y4⟩, _, d1, d2, d3, hl6, hspz, d4, d5⟩ := hM5
    obtain ⟨p0, p1, _, _⟩ := hspz.2 i (by rw [List.length_set]; exact hin2)
    have hszz6 := hspz.1
    simp only [List.getElem_set_self] at p0 p1
    clear hspz hl6
    generalize max qa oa = va at *
    generalize min qb ob = vb at *
    cases rr with
    | false =>
      go_wp2_with (first | (go_at_call 63; refine (empty63 _ _ _).mono ?_; rintro e w7 ⟨rfl, hB7⟩) | fail)
      refine bodyPost_end (results_none rfl _ _ _) rfl ⟨rfl, ?_, HF6.out.setCell (.inr (.inr rfl)) _⟩
      rw [HNL.out]
      exact HM6.out.setR _
    | true =>
      go_wp2_with (first | (go_at_call 63; refine (empty63 _ _ _).mono ?_; rintro e w7 ⟨rfl, hB7⟩; obtain ⟨g4, g5⟩ : w7.cell? ⟨rb, 0, none⟩ = some (.bool true) ∧ w7.frozen? ⟨rb, 0, none⟩ = false := ⟨(hB7.cell (p := ⟨_, _, none⟩) y4).trans d4, (hB7.frozen (p := ⟨_, _, none⟩) y4).trans d5⟩) | fail)
      refine bodyPost_end (results_none rfl _ _ _) rfl ⟨rfl, ?_, (HF6.out.then_ hB7 HF6.out.size).setCell (.inr (.inr rfl)) _⟩
      rw [HNL.out]
      have := (HM6.out.call hB7).setR (!decide (vb < va))
      rw [show (true && decide (va ≤ vb)) = !decide (vb < va) by rw [Bool.eq_iff_iff]; simp]
      exact this
end Go.Proofs.YtgdilbilhajgaaaDoor
