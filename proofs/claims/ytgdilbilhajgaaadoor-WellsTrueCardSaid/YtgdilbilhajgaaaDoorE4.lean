/- What readings say of all mains. -/
import Derived.Test.YtgdilbilhajgaaaDoorE3
import Derived.Test.YtgdilbilhajgaaaDoorW2
namespace Go.Proofs.YtgdilbilhajgaaaDoor
set_option linter.unusedVariables false
set_option linter.unusedSimpArgs false
open Go Go.RowKit

theorem rp_spb {W : World} {S n : Nat} {x1 x2 : Int} (h : Rp W S 68 2 n n [I x1, I x2]) : SpB W S (List.replicate n (x1, x2)) := by
  obtain ⟨L, h1, h2, h3⟩ := h
  refine ⟨(Array.getElem?_eq_some_iff.1 h1).1, fun k hk => ?_⟩
  have hk' : k < n := by simpa using hk
  have e0 := h3 (k * 2) (by omega)
  have e1 := h3 (k * 2 + 1) (by omega)
  rw [show k * 2 % 2 = 0 by omega] at e0
  rw [show (k * 2 + 1) % 2 = 1 by omega] at e1
  refine ⟨?_, ?_, by simp [World.frozen?, h1], by simp [World.frozen?, h1]⟩
  · rw [block_cells h1 _ _ e0]; simp
  · rw [block_cells h1 _ _ e1]; simp
theorem rp_ints {W : World} {S n : Nat} {x : Int} (h : Rp W S 3 1 n n [I x]) : S < W.heap.size ∧ ∀ k, k < n → W.cell? ⟨S, k, none⟩ = some (I x) ∧ W.frozen? ⟨S, k, none⟩ = false := by
  obtain ⟨L, h1, h2, h3⟩ := h
  refine ⟨(Array.getElem?_eq_some_iff.1 h1).1, fun k hk => ⟨?_, by simp [World.frozen?, h1]⟩⟩
  have e0 := h3 k (by omega)
  rw [show k % 1 = 0 by omega] at e0
  exact block_cells h1 _ _ e0

def toldL (l : List (Int × Int × Int)) (n : Nat) : List (Int × Int) := (List.range n).map (toldW l)
theorem toldL_nil (n : Nat) : toldL [] n = List.replicate n (0, 1600) := by
  unfold toldL toldW
  simp only [List.foldl_nil]
  exact List.ext_getElem (by simp) (fun i h1 h2 => by simp)
theorem toldW_snoc (l : List (Int × Int × Int)) (k : Nat) (h : k < l.length) (i : Nat) : toldW (l.take (k + 1)) i = if l[k].1 = (i : Int) then andS (toldW (l.take k) i) l[k].2 else toldW (l.take k) i := by
  unfold toldW
  rw [List.take_succ_eq_append_getElem h, List.foldl_append]
  rfl
theorem toldL_snoc (l : List (Int × Int × Int)) (k n : Nat) (h : k < l.length) (h0 : 0 ≤ l[k].1) (h1 : l[k].1 ≤ (n : Int) - 1) : toldL (l.take (k + 1)) n = (toldL (l.take k) n).set l[k].1.toNat (andS (toldW (l.take k) l[k].1.toNat) l[k].2) := by
  unfold toldL
  refine List.ext_getElem (by simp) (fun i h2 h3 => ?_)
  rw [List.getElem_set]
  simp only [List.getElem_map, List.getElem_range]
  rw [toldW_snoc l k h]
  by_cases e : l[k].1 = (i : Int)
  · rw [if_pos e, if_pos (by omega)]
    congr 2
    omega
  · rw [if_neg e, if_neg (by omega)]
theorem toldL_get (l : List (Int × Int × Int)) (n i : Nat) (h : i < (toldL l n).length) : (toldL l n)[i] = toldW l i := by simp [toldL]
theorem toldL_len (l : List (Int × Int × Int)) (n : Nat) : (toldL l n).length = n := by simp [toldL]

theorem src2 {W : World} {b : Nat} {u v : Value} (h0 : W.cell? ⟨b, 0, none⟩ = some u) (h1 : W.cell? ⟨b, 1, none⟩ = some v) : ∀ (j : Nat) (x : Value), [u, v][j]? = some x → W.cell? ((⟨b, 0, none⟩ : Addr).add j) = some x := fun j x hj => by
  rw [Addr.add_lit, Nat.zero_add]
  rcases j with _ | _ | j
  · simp at hj; subst hj; exact h0
  · simp at hj; subst hj; exact h1
  · simp at hj
theorem src1 {W : World} {b : Nat} {u : Value} (h0 : W.cell? ⟨b, 0, none⟩ = some u) : ∀ (j : Nat) (x : Value), [u][j]? = some x → W.cell? ((⟨b, 0, none⟩ : Addr).add j) = some x := fun j x hj => by
  rw [Addr.add_lit, Nat.zero_add]
  rcases j with _ | j
  · simp at hj; subst hj; exact h0
  · simp at hj
def MulOk : Prop := ∀ (n : Nat), n ≤ 4000 → ∀ W, Calls Tryd.prog 90 #[.int .u64 1, .int .u64 n] W fun e w' => e = .returned (.tuple #[.int .u64 0, .int .u64 n]) ∧ W = w'

set_option maxRecDepth 100000 in
set_option maxHeartbeats 4000000 in
theorem told46 (hmul : MulOk) (T c n : Nat) (A B : Option Addr) (cb : Nat) (l : List (Int × Int × Int)) (w : World) (hT : T < w.heap.size) (hc : w.cell? ⟨T, 0, none⟩ = some (.slice A n c)) (hn : 1 ≤ n ∧ n ≤ 16)
    (hl : Threes w w.heap.size B l) (hll : l.length ≤ 9223372036854775807) (hv : ∀ k (h : k < l.length), rdP n l[k]) :
    Calls Tryd.prog 46 #[.pointer (some ⟨T, 0, none⟩), .slice B l.length cb] w fun e w' => ∃ S, e = .returned (.slice (some ⟨S, 0, none⟩) n n) ∧ w.heap.size ≤ S ∧ SpB w' S (toldL l n) ∧ Below w.heap.size w w' := by
  obtain ⟨hn1, hn2⟩ := hn
  have hrep := fun W (hB : Below w.heap.size w W) (b : Nat) (hb : b < W.heap.size) (h0 : W.cell? ⟨b, 0, none⟩ = some (I 0)) (h1 : W.cell? ⟨b, 1, none⟩ = some (I 1600)) =>
    (repeat67 b 0 1 0 1600 n W (by omega) hb (src2 h0 h1) (hmul n (by omega)))
  have HREP := Lib.hid hrep
  clear hrep
  have HV := Lib.hid hv
  clear hv
  go_enter Tryd.func46, Tryd.ntmps46
  go_wp2_with (first
    | (go_at_call 67; refine (HREP.out _ (by (repeat' (first | assumption | exact Below.refl _ _ | refine Below.drew ?_ | refine below_drewN ?_ _ | refine Below.setCell ?_ (by first | omega | (simp; done) | (simp; omega)) _ | refine Below.alloc ?_ (by first | omega | (simp; done) | (simp; omega)) _ | refine Below.trans ?_ (Below.mono (by assumption) (by first | omega | (simp; done) | (simp; omega)))))) _ (by simp) (by simp [go_sem]) (by simp [go_sem])).mono ?_; rintro e w1 ⟨rfl, hB1, hR1⟩; have HS1 := Lib.hid (rp_spb hR1); clear hR1)
    | fail)
  have hBw : Below w.heap.size w w1 := below_call (by (repeat' (first | assumption | exact Below.refl _ _ | refine Below.drew ?_ | refine below_drewN ?_ _ | refine Below.setCell ?_ (by first | omega | (simp; done) | (simp; omega)) _ | refine Below.alloc ?_ (by first | omega | (simp; done) | (simp; omega)) _ | refine Below.trans ?_ (Below.mono (by assumption) (by first | omega | (simp; done) | (simp; omega)))))) hB1
  rw [World.size_alloc] at HS1
  clear hB1
  obtain ⟨S, hS⟩ : ∃ S, S = w.heap.size + 1 := ⟨_, rfl⟩
  have hSw : w.heap.size ≤ S := by omega
  rw [← hS] at HS1 ⊢
  clear hS
  go_loopw [18] (fun s wr => ∃ k : Nat, k ≤ l.length ∧ s = I k ∧ Below w.heap.size w wr ∧ Hid (SpB wr S (toldL (l.take k) n))) (fun s _ => l.length - (intOf s).toNat)
  case atStart => exact ⟨0, Nat.zero_le _, rfl, hBw, Lib.hid (by rw [List.take_zero, toldL_nil]; exact HS1.out)⟩
  case round =>
    obtain ⟨k, hk, rfl, hB, HS⟩ := hrel
    clear HS1 hBw
    by_cases hlt : k < l.length
    · obtain ⟨b, off, rfl, hb, hcs⟩ := (hl.below hB) (by omega)
      obtain ⟨c0, c1, c2⟩ := hcs k hlt
      obtain ⟨⟨v1, v2⟩, v3, v4, v5⟩ := HV.out k hlt
      have HN := Lib.hid (toldL_snoc l k n hlt v1 v2)
      obtain ⟨i, hi⟩ : ∃ i : Nat, l[k].1 = (i : Int) := ⟨l[k].1.toNat, by omega⟩
      have hin : i < n := by omega
      rw [hi, Int.toNat_natCast] at HN
      rw [hi] at c0
      generalize l[k].2 = rr at *
      obtain ⟨r1, r2⟩ := rr
      simp only at v3 v4 v5 c1 c2
      clear hcs v1 v2 hi
      go_wp2_with (fail)
      have HB0 := Lib.hid (hB.alloc hB.size (.cells #[Value.int .i64 i, Value.int .i64 r1, Value.int .i64 r2] 42))
      have hS0 := (HS.out.alloc (.cells #[Value.int .i64 i, Value.int .i64 r1, Value.int .i64 r2] 42))
      have hbx : Hid ((wr.alloc (.cells #[Value.int .i64 i, Value.int .i64 r1, Value.int .i64 r2] 42)).cell? ⟨wr.heap.size, 0, none⟩ = some (I i) ∧ (wr.alloc (.cells #[Value.int .i64 i, Value.int .i64 r1, Value.int .i64 r2] 42)).cell? ⟨wr.heap.size, 1, none⟩ = some (I r1) ∧
        (wr.alloc (.cells #[Value.int .i64 i, Value.int .i64 r1, Value.int .i64 r2] 42)).cell? ⟨wr.heap.size, 2, none⟩ = some (I r2) ∧ wr.heap.size < (wr.alloc (.cells #[Value.int .i64 i, Value.int .i64 r1, Value.int .i64 r2] 42)).heap.size) := Lib.hid (by simp [go_sem])
      generalize wr.alloc (.cells #[Value.int .i64 i, Value.int .i64 r1, Value.int .i64 r2] 42) = w0 at *
      generalize wr.heap.size = bx at *
      have hSz := hS0.1
      have hlenT := toldL_len (l.take k) n
      obtain ⟨s1, s2, s3, s4⟩ := hS0.2 i (by omega)
      rw [toldL_get] at s1 s2
      have HS0 := Lib.hid hS0
      have hcells : ∀ W, Below w0.heap.size w0 W → W.cell? ⟨bx, 0, none⟩ = some (I i) ∧ W.cell? ⟨bx, 1, none⟩ = some (I r1) ∧ W.cell? ⟨bx, 2, none⟩ = some (I r2) ∧ W.cell? ⟨S, i * 2, none⟩ = some (I (toldW (l.take k) i).1) ∧ W.cell? ⟨S, i * 2 + 1, none⟩ = some (I (toldW (l.take k) i).2) ∧ W.frozen? ⟨S, i * 2, none⟩ = false ∧ W.frozen? ⟨S, i * 2 + 1, none⟩ = false := fun W hW =>
        ⟨(hW.cell (p := ⟨_, _, none⟩) hbx.out.2.2.2).trans hbx.out.1, (hW.cell (p := ⟨_, _, none⟩) hbx.out.2.2.2).trans hbx.out.2.1, (hW.cell (p := ⟨_, _, none⟩) hbx.out.2.2.2).trans hbx.out.2.2.1, (hW.cell (p := ⟨_, _, none⟩) hSz).trans s1, (hW.cell (p := ⟨_, _, none⟩) hSz).trans s2, (hW.frozen (p := ⟨_, _, none⟩) hSz).trans s3, (hW.frozen (p := ⟨_, _, none⟩) hSz).trans s4⟩
      have HCE := Lib.hid hcells
      clear hcells s1 s2 s3 s4 hS0
      generalize toldW (l.take k) i = q at *
      obtain ⟨q1, q2⟩ := q
      simp only at HCE
      have b0 : (0 : Int) ≤ (i : Int) := by omega
      have b1 : (i : Int) < (n : Int) := by omega
      refine (wpIn_wide (n := 9)).1 ?_
      refine wpIn_region_plan (Plan.ons [0, 1, 2, 3, 4, 5, 6, 7, 8, 9, 10, 11, 12] .fin) [0, 1, 2, 5, 7, 9] (fun W' => Below w0.heap.size w0 W') [12] rfl (by kernel_rfl) (by kernel_rfl) (fun _ d _ _ _ h => by cases d <;> exact h) (Below.refl _ _).drew ?_
      (refine ordQ_held (.slice (some ⟨S, 0, none⟩) n n) rfl rfl rfl rfl (fun W' hC' => ?_) (fun K hK => ?_); (focus (obtain _ := HCE.out _ hC'; go_simp; try exact ⟨rfl, rfl⟩)); go_simp; refine hK _ ?_; clear hK K)
      (refine ordQ_held (.pointer (some ⟨bx, 0, none⟩)) rfl rfl rfl rfl (fun W' hC' => ?_) (fun K hK => ?_); (focus (obtain _ := HCE.out _ hC'; go_simp; try exact ⟨rfl, rfl⟩)); go_simp; refine hK _ ?_; clear hK K)
      (refine ordQ_held (I i) rfl rfl rfl rfl (fun W' hC' => ?_) (fun K hK => ?_); (focus (obtain ⟨e0, e1, e2, e3, e4, e5, e6⟩ := HCE.out _ hC'; go_simp; try exact ⟨rfl, rfl⟩)); go_simp; refine hK _ ?_; clear hK K)
      iterate 2 (refine ordQ_li rfl rfl rfl (fun K hK => ?_); go_simp; refine hK _ ?_; clear hK K)
      (refine ordQ_held (I i) rfl rfl rfl rfl (fun W' hC' => ?_) (fun K hK => ?_); (focus (obtain ⟨e0, e1, e2, e3, e4, e5, e6⟩ := HCE.out _ hC'; go_simp; try exact ⟨rfl, rfl⟩)); go_simp; refine hK _ ?_; clear hK K)
      (refine ordQ_li rfl rfl rfl (fun K hK => ?_); go_simp; refine hK _ ?_; clear hK K)
      (refine ordQ_held (.agg #[I q1, I q2]) rfl rfl rfl rfl (fun W' hC' => ?_) (fun K hK => ?_); (focus (obtain ⟨e0, e1, e2, e3, e4, e5, e6⟩ := HCE.out _ hC'; go_simp; try exact ⟨rfl, rfl⟩)); go_simp; refine hK _ ?_; clear hK K)
      (refine ordQ_li rfl rfl rfl (fun K hK => ?_); go_simp; refine hK _ ?_; clear hK K)
      (refine ordQ_held (.agg #[I r1, I r2]) rfl rfl rfl rfl (fun W' hC' => ?_) (fun K hK => ?_); (focus (obtain ⟨e0, e1, e2, e3, e4, e5, e6⟩ := HCE.out _ hC'; go_simp; try exact ⟨rfl, rfl⟩)); go_simp; refine hK _ ?_; clear hK K)
      refine ordQ_hv rfl rfl rfl (fun K hK => ?_)
      gi_wp2_with (refine And.intro trivial ?_; gi_at_call 62; refine callsIn_wide.2 ((and62 _ _ _ _ _).mono ?_); rintro e w2 ⟨rfl, hB2⟩)
      have hb2 : Below w0.heap.size w0 w2 := by simpa using (Below.refl _ _).drew.trans hB2
      refine hK _ _ (fun _ => hb2) ?_
      clear hK K hB2
      (refine ordQ_li rfl rfl rfl (fun K hK => ?_); go_simp; refine hK _ ?_; clear hK K)
      obtain ⟨e0, e1, e2, e3, e4, e5, e6⟩ := HCE.out _ hb2
      refine ordQ_hv rfl rfl rfl (fun K hK => ?_)
      gi_wp2
      refine hK _ _ (fun h => by cases h) ?_
      clear hK K
      refine ordQ_fin ?_
      go_wp2
      go_roundw
      case rel => exact ⟨k + 1, by omega, by go_num, ((HB0.out.trans (hb2.mono HB0.out.size)).setCell hSw _).setCell hSw _, Lib.hid (by rw [HN.out]; exact (HS0.out.call hb2).set i (by omega) (max q1 r1) (min q2 r2))⟩
      case measure => simp [intOf]; omega
    · obtain rfl : l.length = k := by omega
      go_wp2
      go_ret
      exact ⟨S, rfl, hSw, by simpa using HS.out, hB⟩
end Go.Proofs.YtgdilbilhajgaaaDoor
