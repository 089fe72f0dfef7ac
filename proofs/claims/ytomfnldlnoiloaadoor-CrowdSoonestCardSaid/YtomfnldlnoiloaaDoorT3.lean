/- A minute begins. -/
import Derived.Test.YtomfnldlnoiloaaDoorT2
import Derived.Laws.CopyOwn
namespace Go.Proofs.YtomfnldlnoiloaaDoor
set_option linter.unusedVariables false
set_option linter.unusedSimpArgs false
open Go Go.RowKit Go.Maps

theorem Box.row {W : World} {b : Nat} {vs : List Value} {t : TypeId} (h : W.heap[b]? = some (.cells vs.toArray t (0, 0))) : Box W b vs := by
  refine ⟨(Array.getElem?_eq_some_iff.1 h).1, fun k hk => ⟨?_, ?_⟩⟩
  · rw [cell_of_row W b k vs.toArray t (0, 0) h]
    simp [hk]
  · simp [World.frozen?, h]
abbrev thL (n : Nat) (th : Nat → Int) : List Int := (List.range n).map th
theorem thL_at {n : Nat} (th : Nat → Int) {k : Nat} (hk : k < n) : ((thL n th).map I)[k]? = some (I (th k)) := by simp [thL, hk]
theorem thL_set {n : Nat} (th : Nat → Int) {k : Nat} (x : Int) : ((thL n th).map I).set k (I x) = (thL n fun q => if q = k then x else th q).map I := by
  apply List.ext_getElem
  · simp [thL]
  · intro i h1 h2
    simp only [thL, List.getElem_set, List.map_map, List.getElem_map, List.getElem_range, Function.comp]
    by_cases e : k = i
    · rw [if_pos e, if_pos e.symm]
    · rw [if_neg e, if_neg (fun h => e h.symm)]
theorem thL_congr {n : Nat} {f g : Nat → Int} (h : ∀ q, q < n → f q = g q) : thL n f = thL n g := List.map_congr_left fun q hq => h q (List.mem_range.1 hq)
section
variable {W : World} {base : Nat} {v : Vis} {A1 A2 A3 : Option Addr} {q1 q2 q3 db tb mb : Nat} {there there' : List Int} {com : Nat → Nat → Int}
theorem DayAt.drew (h : DayAt W base v A1 A2 A3 q1 q2 q3 db tb mb there com) : DayAt W.drew base v A1 A2 A3 q1 q2 q3 db tb mb there com := by
  obtain ⟨N, f, m1, m2⟩ := h.map
  exact ⟨h.box.drew, h.th.drew, h.len, h.ne, ⟨N, f, m1.drew, m2⟩, h.lo⟩
theorem DayAt.reth (h : DayAt W base v A1 A2 A3 q1 q2 q3 db tb mb there com) (e : there = there') : DayAt W base v A1 A2 A3 q1 q2 q3 db tb mb there' com := e ▸ h
theorem DayAt.store {th : Nat → Int} (h : DayAt W base v A1 A2 A3 q1 q2 q3 db tb mb (thL v.rm.length th) com) (k : Nat) (x : Int) :
    DayAt (W.setCell ⟨tb, k, none⟩ (I x)) base v A1 A2 A3 q1 q2 q3 db tb mb (thL v.rm.length fun q => if q = k then x else th q) com := by
  obtain ⟨N, f, m1, m2⟩ := h.map
  have hne := h.ne
  have := h.th.set k (I x)
  rw [thL_set] at this
  exact ⟨h.box.far (p := ⟨tb, k, none⟩) (by dsimp only; omega) _, this, by simp [thL], hne, ⟨N, f, m1.setCell (p := ⟨tb, k, none⟩) (by dsimp only; omega) _, m2⟩, h.lo⟩
end
theorem splice_all {xs ys : List Value} (h : xs.length = ys.length) : splice xs 0 ys = ys := by simp [splice, ← h]
set_option maxRecDepth 100000 in
set_option maxHeartbeats 4000000 in
theorem begin33 (v : Vis) (hv : VisOk v) (A1 A2 A3 : Option Addr) (q1 q2 q3 base db tb mb t : Nat) (ht : t ≤ 1000) (th : Nat → Int) (com : Nat → Nat → Int) (w : World) (hI : VisAt w base v A1 A2 A3)
    (hD : DayAt w base v A1 A2 A3 q1 q2 q3 db tb mb (thL v.rm.length th) com) (hth : ∀ q, q < v.rm.length → 0 ≤ th q ∧ th q ≤ 1000000) (hcom : ∀ q, q < v.rm.length → 0 ≤ com q t ∧ com q t ≤ 1000000) :
    Calls Tryd.prog 33 #[ptr db, I t] w fun e w' => e = .returned (.tuple #[]) ∧ Frm w.heap.size (· = tb) w w' ∧ DayAt w' base v A1 A2 A3 q1 q2 q3 db tb mb (thL v.rm.length fun q => min (th q) (v.room q) + com q t) com := by
  have hn := hv.n
  unfold Vis.n at hn
  have HV := Lib.hid hv
  have HI := Lib.hid hI
  have HD := Lib.hid hD
  have HT := Lib.hid hth
  have HCO := Lib.hid hcom
  have d3 := (hD.box.at_ 3 _ rfl).1
  have hdl := hD.box.1
  have htl := hD.th.1
  have hml := hD.map.choose_spec.choose_spec.1.lt
  have hms := fun W => make22 v.rm.length (by omega) W
  obtain ⟨i3, hi1, hi2, hi3, hi4⟩ := info_parts info3
  have HSZ : Hid ((Tryd.prog.info? 3).map (·.size) = some 1) := Lib.hid (by rw [hi1]; simp [hi3])
  clear hi1 hi2 hi3 hi4
  have HSRC : Hid (∀ j u, ((thL v.rm.length th).map I)[j]? = some u → (w.alloc (.cells (List.replicate v.rm.length (I 0)).toArray 3)).cell? ((⟨tb, 0, none⟩ : Addr).add j) = some u) := Lib.hid fun j u hu => by
    rw [addr_plain, Nat.zero_add]
    exact ((hD.th.alloc _).at_ j u hu).1
  have HROW : Hid ((w.alloc (.cells (List.replicate v.rm.length (I 0)).toArray 3)).heap[w.heap.size]? = some (.cells (List.replicate v.rm.length (I 0)).toArray 3 (0, 0))) := Lib.hid (MapKept.heap_alloc w _).1
  have hBa : Below w.heap.size w (w.alloc (.cells (List.replicate v.rm.length (I 0)).toArray 3)) := by (repeat' (first | assumption | exact Below.refl _ _ | refine Below.drew ?_ | refine below_drewN ?_ _ | refine Below.setCell ?_ (by first | omega | (simp; done) | (simp; omega)) _ | refine Below.alloc ?_ (by first | omega | (simp; done) | (simp; omega)) _ | refine Below.trans ?_ (Below.mono (by assumption) (by first | omega | (simp; done) | (simp; omega)))))
  have e3 := (World.cell?_alloc_lt w (.cells (List.replicate v.rm.length (I 0)).toArray 3) ⟨db, 3, none⟩ hdl).trans d3
  clear hv hI hD hth hcom
  go_enter Tryd.func33, Tryd.ntmps33
  go_wp2_with (first
    | (refine wpList_copy_splice rfl _ _ 22 22 rfl 3 Tryd.underlying22 HSZ.out (some ⟨w.heap.size, 0, none⟩) (some ⟨tb, 0, none⟩) v.rm.length v.rm.length v.rm.length v.rm.length rfl rfl w.heap.size 0 _ 3 HROW.out ((thL v.rm.length th).map I) (by simp [thL]) (fun _ => ⟨rfl, _, rfl, HSRC.out⟩) (by simp [thL]) (by simp [Value.oneCell']) w.heap.size w hBa (Nat.le_refl _) ?_; intro w2 hr2 hB2)
    | fail)
  have HL0 : Hid (Frm w.heap.size (· = tb) w w2 ∧ Box w2 w.heap.size ((thL v.rm.length th).map I) ∧ DayAt w2 base v A1 A2 A3 q1 q2 q3 db tb mb (thL v.rm.length fun q => if q < 0 then min (th q) (v.room q) + com q t else th q) com) := Lib.hid (by
    have h := hr2.out
    rw [splice_all (by simp [thL])] at h
    refine ⟨.of_below hB2 (Nat.le_refl _), Box.row h, ?_⟩
    simpa using HD.out.below hB2)
  clear hr2 hB2 HSRC HROW hBa e3 d3 hms HSZ HD
  go_loopw [21] (fun i wr => ∃ k : Nat, i = I k ∧ k ≤ v.rm.length ∧ Hid (Frm w.heap.size (· = tb) w wr ∧ Box wr w.heap.size ((thL v.rm.length th).map I) ∧ DayAt wr base v A1 A2 A3 q1 q2 q3 db tb mb (thL v.rm.length fun q => if q < k then min (th q) (v.room q) + com q t else th q) com)) (fun i _ => v.rm.length - (intOf i).toNat)
  case atStart => exact ⟨0, rfl, by omega, HL0⟩
  case round =>
    obtain ⟨k, rfl, hk, HW⟩ := hrel
    clear HL0
    by_cases hlt : k < v.rm.length
    · have hwk : IntKind.i64.wrap ((k : Int) + 1) = (k : Int) + 1 := IntWalk.i64_in _ (by omega)
      obtain ⟨hF, hbw, hD⟩ := HW.out
      have b0 := (hD.box.at_ 0 _ rfl).1
      have b3 := (hD.box.at_ 3 _ rfl).1
      have b4 := (hD.box.at_ 4 _ rfl).1
      have hlo := hD.lo
      have hne := hD.ne
      obtain ⟨rb, ro, rfl, hrb, hc⟩ := HI.out.rm (by omega)
      have rc := (hF.cell (b := rb) (o := ro + k) (by omega) (by omega)).trans (hc k hlt)
      have hro : v.rm[k] = v.room k := by simp [Vis.room, List.getD_eq_getElem?_getD, hlt]
      rw [hro] at rc
      have wc := (hbw.at_ k _ (thL_at th hlt)).1
      obtain ⟨tc, tz⟩ := hD.th.at_ k _ (thL_at _ hlt)
      rw [if_neg (by omega)] at tc
      obtain ⟨N, fm, hm1, hm2⟩ := hD.map
      have hky : IsK Tryd.prog 46 (sd k t) := isK46 ⟨by omega, by omega⟩ ⟨by omega, by omega⟩
      have hlk : (Instr.lookup 66 (.map (some mb)) (sd k t) false).run Tryd.prog wr = .ok (I (com k t)) wr := by rw [hm1.lookup lawS Tryd.underlying66 (zero3 wr) hky, hm2 k t (by omega) ht]
      have hlkd : (Instr.lookup 66 (.map (some mb)) (sd k t) false).run Tryd.prog wr.drew = .ok (I (com k t)) wr.drew := by rw [hm1.drew.lookup lawS Tryd.underlying66 (zero3 wr.drew) hky, hm2 k t (by omega) ht]
      have x1 := HT.out k hlt
      have x2 := HCO.out k hlt
      have x3 := HV.out.room k hlt
      have HST : Hid (∀ x : Int, x = min (th k) (v.room k) + com k t → ∀ W, W = wr ∨ W = wr.drew → Frm w.heap.size (· = tb) w (W.setCell ⟨tb, k, none⟩ (I x)) ∧ Box (W.setCell ⟨tb, k, none⟩ (I x)) w.heap.size ((thL v.rm.length th).map I) ∧ DayAt (W.setCell ⟨tb, k, none⟩ (I x)) base v (some ⟨rb, ro, none⟩) A2 A3 q1 q2 q3 db tb mb (thL v.rm.length fun q => if q < k + 1 then min (th q) (v.room q) + com q t else th q) com) := Lib.hid fun x hx W hW => by
        have hF' : Frm w.heap.size (· = tb) w W := hW.elim (fun e => e ▸ hF) (fun e => e ▸ hF.drew)
        have hbw' : Box W w.heap.size ((thL v.rm.length th).map I) := hW.elim (fun e => e ▸ hbw) (fun e => e ▸ hbw.drew)
        have hD' := hW.elim (fun e => e ▸ hD) (fun e => e ▸ hD.drew)
        refine ⟨hF'.setCell (p := ⟨tb, k, none⟩) (Or.inr rfl) _, hbw'.far (p := ⟨tb, k, none⟩) (by dsimp only; omega) _, (hD'.store k x).reth (thL_congr fun q hq => ?_)⟩
        by_cases e : q = k
        · rw [if_pos e, if_pos (by omega), e, hx]
        · rw [if_neg e]
          by_cases e2 : q < k
          · rw [if_pos e2, if_pos (by omega)]
          · rw [if_neg e2, if_neg (by omega)]
      clear hF hbw hD HW hm1 hm2 hc HV HI HT HCO hro
      obtain ⟨a, ha⟩ : ∃ z, th k = z := ⟨_, rfl⟩
      obtain ⟨r, hr⟩ : ∃ z, v.room k = z := ⟨_, rfl⟩
      obtain ⟨c, hcc⟩ : ∃ z, com k t = z := ⟨_, rfl⟩
      simp only [ha, hr, hcc] at *
      have hwa : IntKind.i64.wrap (min a r + c) = min a r + c := IntWalk.i64_in _ (by omega)
      have k0 : (0 : Int) ≤ (k : Int) := by omega
      have k1 : (k : Int) < (v.rm.length : Int) := by omega
      clear hk
      go_wp2_with (fail)
      refine (wpIn_wide (n := 9)).1 ?_
      refine wpIn_region_plan (Plan.ons [0, 1, 2, 3, 4, 5, 6, 7, 8, 9, 10, 11, 12, 13, 14, 15, 16, 17, 18, 19, 20, 21, 22, 23, 24, 25] .fin) [] (fun _ => True) [] rfl (by kernel_rfl) (by kernel_rfl) (fun _ d _ _ _ h => by cases d <;> exact h) trivial ?_
      (refine ordQ_li rfl rfl rfl (fun K hK => ?_); go_simp; refine hK _ ?_; clear hK K)
      (refine ordQ_li rfl rfl rfl (fun K hK => ?_); go_simp; refine hK _ ?_; clear hK K)
      (refine ordQ_li rfl rfl rfl (fun K hK => ?_); go_simp; refine hK _ ?_; clear hK K)
      (refine ordQ_li rfl rfl rfl (fun K hK => ?_); go_simp; refine hK _ ?_; clear hK K)
      (refine ordQ_li rfl rfl rfl (fun K hK => ?_); go_simp; refine hK _ ?_; clear hK K)
      (refine ordQ_li rfl rfl rfl (fun K hK => ?_); go_simp; refine hK _ ?_; clear hK K)
      (refine ordQ_li rfl rfl rfl (fun K hK => ?_); go_simp; refine hK _ ?_; clear hK K)
      (refine ordQ_li rfl rfl rfl (fun K hK => ?_); go_simp; refine hK _ ?_; clear hK K)
      (refine ordQ_li rfl rfl rfl (fun K hK => ?_); go_simp; refine hK _ ?_; clear hK K)
      (refine ordQ_li rfl rfl rfl (fun K hK => ?_); go_simp; refine hK _ ?_; clear hK K)
      (refine ordQ_li rfl rfl rfl (fun K hK => ?_); go_simp; refine hK _ ?_; clear hK K)
      (refine ordQ_li rfl rfl rfl (fun K hK => ?_); go_simp; refine hK _ ?_; clear hK K)
      (refine ordQ_li rfl rfl rfl (fun K hK => ?_); go_simp; refine hK _ ?_; clear hK K)
      (refine ordQ_li rfl rfl rfl (fun K hK => ?_); go_simp; refine hK _ ?_; clear hK K)
      (refine ordQ_li rfl rfl rfl (fun K hK => ?_); go_simp; refine hK _ ?_; clear hK K)
      (refine ordQ_li rfl rfl rfl (fun K hK => ?_); go_simp; refine hK _ ?_; clear hK K)
      (refine ordQ_li rfl rfl rfl (fun K hK => ?_); go_simp; refine hK _ ?_; clear hK K)
      (refine ordQ_li rfl rfl rfl (fun K hK => ?_); go_simp; refine hK _ ?_; clear hK K)
      (refine ordQ_li rfl rfl rfl (fun K hK => ?_); go_simp; refine hK _ ?_; clear hK K)
      (refine ordQ_li rfl rfl rfl (fun K hK => ?_); go_simp; refine hK _ ?_; clear hK K)
      (refine ordQ_li rfl rfl rfl (fun K hK => ?_); go_simp; refine hK _ ?_; clear hK K)
      (refine ordQ_li rfl rfl rfl (fun K hK => ?_); go_simp; refine hK _ ?_; clear hK K)
      (refine ordQ_li rfl rfl rfl (fun K hK => ?_); go_simp; refine hK _ ?_; clear hK K)
      (refine ordQ_li rfl rfl rfl (fun K hK => ?_); go_simp; refine hK _ ?_; clear hK K)
      (refine ordQ_li rfl rfl rfl (fun K hK => ?_); go_simp; refine hK _ ?_; clear hK K)
      refine ordQ_hv rfl rfl rfl (fun K hK => ?_)
      gi_wp2
      refine hK _ _ (fun _ => trivial) ?_
      clear hK K
      refine ordQ_fin ?_
      have HN := Lib.hid (HST.out _ rfl _ (.inr rfl))
      clear HST hlk hlkd rc wc tc tz b0 b3 b4 hky
      go_wp2_with (fail)
      go_roundw
      case rel => exact ⟨k + 1, by go_num, by omega, HN⟩
      case measure => simp [intOf]; omega
    · obtain rfl : k = v.rm.length := by omega
      have HE := Lib.hid (And.intro HW.out.1 (HW.out.2.2.reth (thL_congr (g := fun q => min (th q) (v.room q) + com q t) fun q hq => if_pos hq)))
      clear HW HV HI HT HCO
      go_wp2_with (fail)
      go_end0
      exact ⟨rfl, HE.out⟩
end Go.Proofs.YtomfnldlnoiloaaDoor
