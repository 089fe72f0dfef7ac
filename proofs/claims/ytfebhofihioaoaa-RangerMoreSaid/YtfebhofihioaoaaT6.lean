/- RangerMore: the walk, where something can be more. -/
import Derived.Test.YtfebhofihioaoaaS28
import Derived.Test.YtfebhofihioaoaaO15
import Derived.Test.YtfebhofihioaoaaN4
import Derived.Test.YtfebhofihioaoaaNj
import Derived.Test.YtfebhofihioaoaaA14
import Derived.Test.YtfebhofihioaoaaT5
namespace Go.Proofs.Ytfebhofihioaoaa
set_option linter.unusedVariables false
set_option linter.unusedSimpArgs false
open Go Go.RowKit

theorem info48 : (Try.prog.info? 48).map (fun i => (i.zero, i.size, i.bytes)) = some (some (.agg #[I 0, I 0, I 0, I 0]), 4, 32) := by kernel_rfl
theorem grown_set (W : World) (p : Addr) (v : Value) : W.grownBy (W.setCell p v) (some p.block) :=
  ⟨rfl, rfl, rfl, by simp [World.setCell], fun k hk hne => Below.heap_setCell _ _ _ _ (fun e => hne (by rw [e]))⟩
theorem pow_sixB {i : Nat} (h : i ≤ 6) : 2 ^ i ≤ 64 := by
  have := Nat.pow_le_pow_right (show 0 < 2 by omega) h
  simpa using this
set_option maxRecDepth 100000 in
set_option maxHeartbeats 8000000 in
theorem more_ok (x : Prk) (A C : Option Addr) (c f : Nat) (l : List Int) (wh ne le : Int) (w : World) (hA : Fours w w.heap.size A x.sp) (hx : Prk64 x) (hl : Ints w w.heap.size C l) (hll : l.length ≤ 9223372036854775807) (hwh : 0 ≤ wh ∧ wh ≤ 255) (hne : 0 ≤ ne ∧ ne ≤ 255) (hle : 0 ≤ le ∧ le ≤ 65535) (h4 : (lackR x l).2.2 = 4) (h0 : 0 < x.sp.length) :
    Calls Try.prog 7 #[x.val A c, .slice C l.length f, .int .u8 wh, .int .u8 ne, .int .u16 le] w fun e w' => e = .returned (.bool true) ∧ Below w.heap.size w w' := by
  have HFI : Hid (∀ W, Below w.heap.size w W → Fours W W.heap.size A x.sp ∧ Ints W W.heap.size C l) := Lib.hid fun W hW => ⟨(hA.below hW).more hW.size, (hl.below hW).more hW.size⟩
  have hxl := hx.len
  have H9 : Hid (∀ W : World, Fours W W.heap.size A x.sp → Calls Try.prog 9 #[.agg #[.slice A x.sp.length c, I x.alo, I x.ahi]] W fun e w' => ∃ b : Bool, e = .returned (.bool b) ∧ Below W.heap.size W w') := Lib.hid fun W h => busy9 x A c W h hx
  have H10 : Hid (∀ W : World, Calls Try.prog 10 #[] W fun e w' => e = .returned (.bool true) ∧ Below W.heap.size W w') := Lib.hid awake10
  obtain ⟨hok, hpo, hen⟩ := lack_ok h4
  clear hen
  have hp := prkB_iff.2 hok
  have hq := postsB_iff.2 hpo
  have H17 : Hid (∀ W : World, Fours W W.heap.size A x.sp → Calls Try.prog 17 #[.agg #[.slice A x.sp.length c, I x.alo, I x.ahi]] W fun e w' => e = .returned (.bool true) ∧ Below W.heap.size W w') := Lib.hid fun W h => by
    have := park17 x A c W h hxl
    rwa [hp] at this
  have H21 : Hid (∀ W : World, Ints W W.heap.size C l → Calls Try.prog 21 #[.agg #[.slice A x.sp.length c, I x.alo, I x.ahi], .slice C l.length f] W fun e w' => e = .returned (.bool true) ∧ Below W.heap.size W w') := Lib.hid fun W h => by
    have := posts21 x A C c f l W h hll hxl
    rwa [hq] at this
  have hn6 : x.sp.length ≤ 6 := hok.n6
  have hlx : l.length = x.sp.length := hpo.1
  obtain ⟨k, hk⟩ : ∃ k : Nat, wh % (x.sp.length : Int) = (k : Int) := ⟨(wh % (x.sp.length : Int)).toNat, by have := Int.emod_nonneg wh (show (x.sp.length : Int) ≠ 0 by omega); omega⟩
  obtain ⟨b, hb⟩ : ∃ b : Nat, ne % (x.sp.length : Int) = (b : Int) := ⟨(ne % (x.sp.length : Int)).toNat, by have := Int.emod_nonneg ne (show (x.sp.length : Int) ≠ 0 by omega); omega⟩
  have hkn : k < x.sp.length := by have := Int.emod_lt_of_pos wh (show (0 : Int) < (x.sp.length : Int) by omega); omega
  have hbn : b < x.sp.length := by have := Int.emod_lt_of_pos ne (show (0 : Int) < (x.sp.length : Int) by omega); omega
  have hkl : k < l.length := by omega
  have hl6 : l.length ≤ 6 := by omega
  have hl0 : 0 < l.length := by omega
  have hlk := hpo.2 k hkl
  have HRI : Hid (∃ (lk : Int) (rl : List Int), l[k] = lk ∧ rl = l.set k (min 12 (lk + 1)) ∧ (lackR x rl).2.2 = 4) := Lib.hid ⟨_, _, rfl, rfl, more_rich h4 hkl⟩
  obtain ⟨lk, rl, hlke, hrl, hr4⟩ := HRI.out
  have hrlen : rl.length = l.length := by rw [hrl]; simp
  have hlk2 : 0 ≤ lk ∧ lk ≤ 12 := by rw [← hlke]; exact hlk
  have H15R : Hid (∀ (W : World) (D : Option Addr) (g : Nat), Fours W W.heap.size A x.sp → Ints W W.heap.size D rl → Calls Try.prog 15 #[.agg #[.slice A x.sp.length c, I x.alo, I x.ahi], .slice D l.length g] W fun e w' => ∃ a b : Int, e = .returned (.tuple #[I a, I b, I 4]) ∧ Below W.heap.size W w') := Lib.hid fun W D g h h1 => by
    have := lacking15 x A D c g rl W h h1 hxl (by omega)
    rw [hr4, hrlen] at this
    exact this.mono fun e w' ⟨k1, k2⟩ => ⟨_, _, k1, k2⟩
  have H15 : Hid (∀ W : World, Fours W W.heap.size A x.sp → Ints W W.heap.size C l → Calls Try.prog 15 #[.agg #[.slice A x.sp.length c, I x.alo, I x.ahi], .slice C l.length f] W fun e w' => ∃ a b : Int, e = .returned (.tuple #[I a, I b, I 4]) ∧ Below W.heap.size W w') := Lib.hid fun W h h1 => by
    have := lacking15 x A C c f l W h h1 hxl hll
    rw [h4] at this
    exact this.mono fun e w' ⟨k1, k2⟩ => ⟨_, _, k1, k2⟩
  have HFW : Hid (∃ fz gz : Int, fz = max x.alo (x.ahi - le) ∧ (gz = 4 ∨ gz = 1) ∧ (gz = 1 → ∀ W : World, Fours W W.heap.size A x.sp → Calls Try.prog 17 #[.agg #[.slice A x.sp.length c, I x.alo, I fz]] W fun e w' => e = .returned (.bool false) ∧ Below W.heap.size W w') ∧ ∀ W : World, Fours W W.heap.size A x.sp → Ints W W.heap.size C l → Calls Try.prog 15 #[.agg #[.slice A x.sp.length c, I x.alo, I fz], .slice C l.length f] W fun e w' => ∃ a b : Int, e = .returned (.tuple #[I a, I b, I gz]) ∧ Below W.heap.size W w') := Lib.hid (by
    refine ⟨_, (lackR ⟨x.sp, x.alo, max x.alo (x.ahi - le)⟩ l).2.2, rfl, ?_, fun h1 W h => ?_, fun W h h1 => ?_⟩
    · rcases more_few h4 hle.1 with h | h
      · exact .inl h.2
      · exact .inr h.2
    · rcases more_few h4 hle.1 with h2 | h2
      · rw [h2.2] at h1
        exact absurd h1 (by decide)
      · have := park17 ⟨x.sp, x.alo, max x.alo (x.ahi - le)⟩ A c W h hxl
        rwa [h2.1] at this
    · exact (lacking15 ⟨x.sp, x.alo, max x.alo (x.ahi - le)⟩ A C c f l W h h1 hxl hll).mono fun e w' ⟨k1, k2⟩ => ⟨_, _, k1, k2⟩)
  obtain ⟨fz, gz, hfz, hgz, hf17, hf15⟩ := HFW.out
  have hnek := hok.near k hkn
  obtain ⟨m, hm⟩ : ∃ m : Nat, x.ne k = (m : Int) := ⟨(x.ne k).toNat, by omega⟩
  have HM64 : Hid (m < 64 ∧ 2 ^ b ≤ 64) := Lib.hid (by
    have h1 := pow_n hn6
    have h2 : x.ne k ≤ (2 : Int) ^ x.sp.length - 1 := hnek.2
    exact ⟨by omega, pow_sixB (by omega)⟩)
  have HWI : Hid (∃ (bb : Bool) (wsp : List (Int × Int × Int × Int)) (P : Nat), m.testBit b = bb ∧ P = 2 ^ b ∧ (bb = true → wsp = x.sp) ∧ (bb = false → flat4 wsp = (flat4 x.sp).set (k * 4 + 3) (I ((m : Int) + P))) ∧ ∀ (W : World) (D : Option Addr) (g : Nat), Fours W W.heap.size D wsp → Ints W W.heap.size C l → Calls Try.prog 15 #[.agg #[.slice D x.sp.length g, I x.alo, I x.ahi], .slice C l.length f] W fun e w' => ∃ a b : Int, e = .returned (.tuple #[I a, I b, I 4]) ∧ Below W.heap.size W w') := Lib.hid (by
    have hmt : (x.ne k).toNat = m := by omega
    have hsp : x.sp[k] = (x.lo k, x.hi k, x.ho k, x.ne k) := by simp [Prk.lo, Prk.hi, Prk.ho, Prk.ne, List.getD, hkn]
    refine ⟨m.testBit b, (wideP x k b).sp, 2 ^ b, rfl, rfl, fun h => ?_, fun h => ?_, fun W D g h h1 => ?_⟩
    · show x.sp.set k _ = x.sp
      rw [hmt, h, if_pos rfl, ← hsp]
      exact List.set_getElem_self hkn
    · show flat4 (x.sp.set k _) = _
      rw [hmt, h, if_neg (by decide)]
      have e : (x.lo k, x.hi k, x.ho k, x.ne k + (2 : Int) ^ b) = (x.sp[k].1, x.sp[k].2.1, x.sp[k].2.2.1, x.ne k + (2 : Int) ^ b) := by rw [hsp]
      rw [e, flat4_set x.sp k _ hkn, hm]
      obtain ⟨P, hP1, hP2⟩ := pow_both b
      rw [hP1, hP2]
    · have e : (wideP x k b).val D g = .agg #[.slice D x.sp.length g, I x.alo, I x.ahi] := by simp [Prk.val, wideP]
      have e2 : (wideP x k b).sp.length = x.sp.length := by simp [wideP]
      have := lacking15 (wideP x k b) D C g f l W h h1 (by rw [e2]; exact hxl) hll
      rw [e, more_wide h4 hkn hbn] at this
      exact this.mono fun e w' ⟨k1, k2⟩ => ⟨_, _, k1, k2⟩)
  obtain ⟨bb, wsp, P, hbb, hP, hw1, hw2, hw15⟩ := HWI.out
  have HF17 := Lib.hid hf17
  have HF15 := Lib.hid hf15
  have HW15 := Lib.hid hw15
  have HWS1 := Lib.hid hw1
  have HWS2 := Lib.hid hw2
  have HRL := Lib.hid hrl
  have HBB := Lib.hid hbb
  have HPP := Lib.hid hP
  have HLC : Hid (∀ W, Below w.heap.size w W → ∃ ad, C = some ad ∧ ∀ j u, (l.map I)[j]? = some u → W.cell? (ad.add j) = some u) := Lib.hid fun W h => ints_at (hl.below h) hl0
  have HONE : Hid (∀ u ∈ l.map I, u.oneCell' = true) := Lib.hid fun u hu => by
    obtain ⟨z, _, rfl⟩ := List.mem_map.1 hu
    rfl
  have HFC : Hid (∀ W, Below w.heap.size w W → ∃ ad, A = some ad ∧ ∀ j u, (flat4 x.sp)[j]? = some u → W.cell? (ad.add j) = some u) := Lib.hid fun W h => flat4_at (hA.below h) h0
  have HLK := Lib.hid hlke
  have HLX := Lib.hid hlx
  have HFN : Hid (∃ q0 q1 q2 : Int, (flat4 x.sp)[k * 4]? = some (I q0) ∧ (flat4 x.sp)[k * 4 + 1]? = some (I q1) ∧ (flat4 x.sp)[k * 4 + 2]? = some (I q2) ∧ (flat4 x.sp)[k * 4 + 3]? = some (I (m : Int))) := Lib.hid (by
    obtain ⟨a0, a1, a2, a3⟩ := flat4_get x.sp k hkn
    refine ⟨_, _, _, a0, a1, a2, ?_⟩
    rw [a3, ← hm]
    simp [Prk.ne, List.getD, hkn])
  have HAB := Lib.hid (And.intro hok.all hle)
  have hFZ : max x.alo (x.ahi - le) = fz := hfz.symm
  have hmm := HM64.out.1
  clear h4 hok hpo hp hq HRI hlk hlke hrl hr4 hrlen HFW hfz hf17 hf15 HWI hbb hP hw1 hw2 hw15 hlx hnek hm
  have hall := HAB.out
  obtain ⟨i0, hi0, hi1, hi2, hi3⟩ := info_parts info3
  obtain ⟨j0, hj0, hj1, hj2, hj3⟩ := info_parts info48
  have hu : Try.prog.underlying 27 = some (.slice 3) := Try.underlying27
  have hu2 : Try.prog.underlying 22 = some (.slice 48) := Try.underlying22
  have HU := Lib.hid hu; have HI0 := Lib.hid hi0; have HI1 := Lib.hid hi1; have HI2 := Lib.hid hi2; have HI3 := Lib.hid hi3
  have HU2 := Lib.hid hu2; have HJ0 := Lib.hid hj0; have HJ1 := Lib.hid hj1; have HJ2 := Lib.hid hj2; have HJ3 := Lib.hid hj3
  clear hu hi0 hi1 hi2 hi3 hu2 hj0 hj1 hj2 hj3 HAB
  clear hA hx hl
  simp only [Prk.val]
  generalize x.alo = al at *
  generalize x.ahi = ah at *
  have HW : Hid (Below w.heap.size w (w.alloc (.cells #[.slice A x.sp.length c, I al, I ah] 26))) := Lib.hid (below1 _ _)
  have HCP : Hid (∀ W, Below (w.heap.size + 1) (w.alloc (.cells #[.slice A x.sp.length c, I al, I ah] 26)) W → W.cell? ⟨w.heap.size, 0, none⟩ = some (.slice A x.sp.length c) ∧ W.cell? ⟨w.heap.size, 1, none⟩ = some (I al) ∧ W.cell? ⟨w.heap.size, 2, none⟩ = some (I ah) ∧ Below w.heap.size w W) := Lib.hid fun W hW =>
    ⟨(hW.cell (p := ⟨_, _, none⟩) (by simp)).trans (by simp [go_sem]), (hW.cell (p := ⟨_, _, none⟩) (by simp)).trans (by simp [go_sem]), (hW.cell (p := ⟨_, _, none⟩) (by simp)).trans (by simp [go_sem]), (below1 w _).trans (hW.mono (by omega))⟩
  have HST : Hid (∀ V W X : World, Below (w.heap.size + 1) V W → w.heap.size + 1 ≤ W.heap.size → Below W.heap.size W X → Below (w.heap.size + 1) V X ∧ w.heap.size + 1 ≤ X.heap.size) := Lib.hid fun V W X h1 h2 h3 => ⟨h1.trans (h3.mono h2), by have := h3.size; omega⟩
  have hsz : (w.alloc (.cells #[.slice A x.sp.length c, I al, I ah] 26)).heap.size = w.heap.size + 1 := by simp
  go_enter Try.func7, Try.ntmps7
  go_wp2_with (fail)
  refine (H9.out _ (HFI.out _ HW.out).1).mono ?_
  rintro e w1 ⟨b, rfl, hB1⟩
  have hb1 : Below (w.heap.size + 1) (w.alloc (.cells #[.slice A x.sp.length c, I al, I ah] 26)) w1 := hB1.mono (by omega)
  have hz1 : w.heap.size + 1 ≤ w1.heap.size := by have := hB1.size; omega
  obtain ⟨q0, q1, q2, hBw1⟩ := HCP.out w1 hb1
  clear hB1
  cases b
  · by_cases hlb : 10 < l.length
    · have hlbd : decide ((10 : Int) < (l.length : Int)) = true := decide_eq_true (by omega)
      go_wp2_with (first
        | (go_at_call 10; refine (H10.out _).mono ?_; rintro e w2 ⟨rfl, hB2⟩)
        | fail)
      refine bodyPost_ret (v := .bool true) (by simp [results, Try.results7, go_sem]) rfl ⟨rfl, hBw1.trans (hB2.mono hBw1.size)⟩
    · have hlbd : decide ((10 : Int) < (l.length : Int)) = false := decide_eq_false (by omega)
      have p0 : (0 : Int) < (x.sp.length : Int) := by omega
      have p1 : (0 : Int) ≤ (k : Int) := by omega
      have p2 : (k : Int) < (l.length : Int) := by omega
      have p3 : ((x.sp.length : Int) == 0) = false := beq_eq_false_iff_ne.2 (by omega)
      have HGZ := Lib.hid hgz
      clear hgz
      have hwh1 := hwh.1
      have hwh2 := hwh.2
      go_wp2_with (first
        | (go_at_call 15; refine (H15.out _ (HFI.out _ hBw1).1 (HFI.out _ hBw1).2).mono ?_; rintro e w2 ⟨la, lb, rfl, hB2⟩; obtain ⟨hb2, hz2⟩ := HST.out _ _ _ hb1 hz1 hB2; obtain ⟨c20, c21, c22, hBw2⟩ := HCP.out w2 hb2)
        | (go_at_call 17; refine (H17.out _ (HFI.out _ hBw2).1).mono ?_; rintro e w3 ⟨rfl, hB3⟩; obtain ⟨hb3, hz3⟩ := HST.out _ _ _ hb2 hz2 hB3; obtain ⟨c30, c31, c32, hBw3⟩ := HCP.out w3 hb3)
        | fail)
      refine (H21.out _ (HFI.out _ hBw3).2).mono ?_
      rintro e w4 ⟨rfl, hB4⟩
      obtain ⟨hb4, hz4⟩ := HST.out _ _ _ hb3 hz3 hB4
      obtain ⟨c40, c41, c42, hBw4⟩ := HCP.out w4 hb4
      go_wp2_with (first
        | (at_builtin; go_must (refine wpList_append_any _ rfl _ _ 27 rfl w4.heap.size 3 i0 (.int .i64 0) 1 8 HU.out HI0.out HI1.out HI2.out HI3.out rfl (by decide) _ _ _ rfl (World.ownsRow_made w4 #[] 0 (Nat.le_refl _) (Nat.zero_le _) (by simp)) C l.length f (l.map I) rfl (by simp) (fun _ => HLC.out _ (hBw4.alloc hBw4.size _)) HONE.out (by unfold maxLen; omega) (by omega) (by simp) ?_); intro v5 w5 hown5 hg5; obtain ⟨g5, cap5, rfl, hB5, hg51, hg52, HO5⟩ := app_new hown5 hg5 hl0; clear hown5 hg5; obtain ⟨hb5, hz5⟩ := HST.out _ _ _ hb4 hz4 hB5; obtain ⟨c50, c51, c52, hBw5⟩ := HCP.out w5 hb5; have hg53 : w.heap.size + 1 ≤ g5 := (by omega); have r5 : w5.cell? ⟨g5, k, none⟩ = some (I lk) := (by rw [HO5.out.cellAt k (by omega), List.getElem?_map, List.getElem?_eq_getElem hkl, HLK.out]; rfl); have f5 : w5.frozen? ⟨g5, k, none⟩ = false := HO5.out.frozenAt k)
        | fail)
      obtain ⟨w6, hw6⟩ : ∃ w6, w5.setCell ⟨g5, k, none⟩ (I (min 12 (lk + 1))) = w6 := ⟨_, rfl⟩
      have hB6 : Below w4.heap.size w4 w6 := by rw [← hw6]; exact hB5.setCell hg51 _
      have HO6 : Hid (w6.ownsRow w4.heap.size 3 1 (.slice (some ⟨g5, 0, none⟩) l.length cap5) l.length (rl.map I)) := Lib.hid (by
        rw [← hw6]
        have := (HO5.out.stored k (I (min 12 (lk + 1)))).1
        rw [HRL.out, List.map_set]
        exact this)
      rw [hw6]
      clear hw6 r5 f5 hb5 hz5 c50 c51 c52 hBw5
      obtain ⟨hb6, hz6⟩ := HST.out _ _ _ hb4 hz4 hB6
      obtain ⟨c60, c61, c62, hBw6⟩ := HCP.out w6 hb6
      go_wp2_with (first
        | (go_at_call 15; refine (H15R.out _ _ _ (HFI.out _ hBw6).1 (ints_own HO6.out)).mono ?_; rintro e w7 ⟨lc, ld, rfl, hB7⟩; obtain ⟨hb7, hz7⟩ := HST.out _ _ _ hb6 hz6 hB7; obtain ⟨c70, c71, c72, hBw7⟩ := HCP.out w7 hb7)
        | fail)
      clear HO5 HO6 c60 c61 c62 hBw6 hB5 hB6 hb6 hz6 hg51 hg52 hg53
      have HB7 := Lib.hid hb7
      have HR7 := Lib.hid hBw7
      obtain ⟨Z, hZ⟩ : ∃ Z : List Value, Z = [.slice none 0 0, I 0, I 0] := ⟨_, rfl⟩
      have HZ := Lib.hid hZ
      have HZ2 : Hid (Z.toArray = #[.slice none 0 0, I 0, I 0]) := Lib.hid (by rw [hZ])
      clear hZ
      go_cut [20, 21] (fun s20 s21 wx => ∃ g5 g6 : Nat, s20 = .pointer (some ⟨g5, 0, none⟩) ∧ s21 = .pointer (some ⟨g6, 0, none⟩) ∧ g5 ≠ g6 ∧ w7.heap.size ≤ g5 ∧ w7.heap.size ≤ g6 ∧ Below w7.heap.size w7 wx ∧ Hid (Box wx g5 [.slice A x.sp.length c, I al, I ah]) ∧ Hid (Box wx g6 [.slice A x.sp.length c, I al, I ah]))
      case first =>
        refine (wpIn_wide (n := 9)).1 ?_
        refine wpIn_region_jointL [some 86, some 87, some 20, some 21, none, none]
          (Js 2 w7.heap.size w7 [.slice A x.sp.length c, I al, I ah] Z) rfl (by kernel_rfl) (by kernel_rfl) (by kernel_rfl) (fun _ d _ _ _ h => by cases d <;> exact h) (Js.start w7 2 _ (Nat.le_refl _) _ _) ?_ ?_
        · refine ⟨?_, ?_, ?_, ?_, ?_, ?_, trivial⟩
          · (intro val l vo W hli hd hJ K hK; have HK := Lib.hid hK; have HD := Lib.hid hd; have HJ := Lib.hid hJ; have HLI := Lib.hid hli; clear hK hd hJ hli; simp only [putD, Act.put, List.setIfInBounds_toArray, List.set_cons_succ, List.set_cons_zero, Nat.zero_add, Nat.reduceAdd] at HK ⊢; refine ⟨rfl, ?_⟩)
            obtain ⟨f0, f1, f2, _⟩ := HCP.out W (HB7.out.trans (HJ.out.low.mono hz7))
            gi_wp2
            exact HK.out _ _ (HJ.out.load 0 (by decide))
          · (intro val l vo W hli hd hJ K hK; have HK := Lib.hid hK; have HD := Lib.hid hd; have HJ := Lib.hid hJ; have HLI := Lib.hid hli; clear hK hd hJ hli; simp only [putD, Act.put, List.setIfInBounds_toArray, List.set_cons_succ, List.set_cons_zero, Nat.zero_add, Nat.reduceAdd] at HK ⊢; refine ⟨rfl, ?_⟩)
            obtain ⟨f0, f1, f2, _⟩ := HCP.out W (HB7.out.trans (HJ.out.low.mono hz7))
            gi_wp2
            exact HK.out _ _ (HJ.out.load 1 (by decide))
          · (intro val l vo W hli hd hJ K hK; have HK := Lib.hid hK; have HD := Lib.hid hd; have HJ := Lib.hid hJ; have HLI := Lib.hid hli; clear hK hd hJ hli; simp only [putD, Act.put, List.setIfInBounds_toArray, List.set_cons_succ, List.set_cons_zero, Nat.zero_add, Nat.reduceAdd] at HK ⊢; refine ⟨rfl, ?_⟩)
            gi_wp2
            refine HK.out _ _ ?_
            rw [← HZ2.out]
            exact HJ.out.alloc 0 (by decide) HLI.out 26
          · (intro val l vo W hli hd hJ K hK; have HK := Lib.hid hK; have HD := Lib.hid hd; have HJ := Lib.hid hJ; have HLI := Lib.hid hli; clear hK hd hJ hli; simp only [putD, Act.put, List.setIfInBounds_toArray, List.set_cons_succ, List.set_cons_zero, Nat.zero_add, Nat.reduceAdd] at HK ⊢; refine ⟨rfl, ?_⟩)
            gi_wp2
            refine HK.out _ _ ?_
            rw [← HZ2.out]
            exact HJ.out.alloc 1 (by decide) HLI.out 26
          · (intro val l vo W hli hd hJ K hK; have HK := Lib.hid hK; have HD := Lib.hid hd; have HJ := Lib.hid hJ; have HLI := Lib.hid hli; clear hK hd hJ hli; simp only [putD, Act.put, List.setIfInBounds_toArray, List.set_cons_succ, List.set_cons_zero, Nat.zero_add, Nat.reduceAdd] at HK ⊢; refine ⟨rfl, ?_⟩)
            obtain ⟨hl1, hv1⟩ : l 2 = true ∧ val 2 = vo 2 := HD.out.1
            obtain ⟨hl2, hv2⟩ : l 0 = true ∧ val 0 = vo 0 := HD.out.2.1
            have hd2 := HJ.out.loads 0 (by decide) hl2
            obtain ⟨g, hg1, hg2, hg3⟩ := HJ.out.boxes 0 (by decide) hl1
            have hb : Box W g Z := by simpa [HLI.out] using hg3
            rw [HZ.out] at hb
            have e1 := hv1.trans hg1
            have e2 := hv2.trans hd2
            rw [e1, e2] at HK ⊢
            obtain ⟨x0, z0⟩ := hb.at_ 0 _ rfl
            obtain ⟨x1, z1⟩ := hb.at_ 1 _ rfl
            obtain ⟨x2, z2⟩ := hb.at_ 2 _ rfl
            have hbD := ((hb.set 0 (.slice A x.sp.length c)).set 1 (I al)).set 2 (I ah)
            simp only [List.set_cons_zero, List.set_cons_succ] at hbD
            have HBD := Lib.hid hbD
            have HL1 := Lib.hid hl1
            have HG1 := Lib.hid hg1
            clear hbD hb hd2 hl2 hv2 hv1 e1 e2 hl1 hg1 hg3 HD
            gi_wp2
            exact HK.out undef _ (HJ.out.store 0 (by decide) HL1.out HG1.out undef (frm_set3 _ _ _ _ _) HBD.out)
          · (intro val l vo W hli hd hJ K hK; have HK := Lib.hid hK; have HD := Lib.hid hd; have HJ := Lib.hid hJ; have HLI := Lib.hid hli; clear hK hd hJ hli; simp only [putD, Act.put, List.setIfInBounds_toArray, List.set_cons_succ, List.set_cons_zero, Nat.zero_add, Nat.reduceAdd] at HK ⊢; refine ⟨rfl, ?_⟩)
            obtain ⟨hl1, hv1⟩ : l 3 = true ∧ val 3 = vo 3 := HD.out.1
            obtain ⟨hl2, hv2⟩ : l 1 = true ∧ val 1 = vo 1 := HD.out.2.1
            have hd2 := HJ.out.loads 1 (by decide) hl2
            obtain ⟨g, hg1, hg2, hg3⟩ := HJ.out.boxes 1 (by decide) hl1
            have hb : Box W g Z := by simpa [HLI.out] using hg3
            rw [HZ.out] at hb
            have e1 := hv1.trans hg1
            have e2 := hv2.trans hd2
            rw [e1, e2] at HK ⊢
            obtain ⟨x0, z0⟩ := hb.at_ 0 _ rfl
            obtain ⟨x1, z1⟩ := hb.at_ 1 _ rfl
            obtain ⟨x2, z2⟩ := hb.at_ 2 _ rfl
            have hbD := ((hb.set 0 (.slice A x.sp.length c)).set 1 (I al)).set 2 (I ah)
            simp only [List.set_cons_zero, List.set_cons_succ] at hbD
            have HBD := Lib.hid hbD
            have HL1 := Lib.hid hl1
            have HG1 := Lib.hid hg1
            clear hbD hb hd2 hl2 hv2 hv1 e1 e2 hl1 hg1 hg3 HD
            gi_wp2
            exact HK.out undef _ (HJ.out.store 1 (by decide) HL1.out HG1.out undef (frm_set3 _ _ _ _ _) HBD.out)
        · intro l val W hall hJ
          obtain ⟨g5, e1, m1, b1⟩ := hJ.boxes 0 (by decide) (hall 2 (by decide))
          obtain ⟨g6, e2, m2, b2⟩ := hJ.boxes 1 (by decide) (hall 3 (by decide))
          have d12 := hJ.apart 0 1 (by decide) (by decide) (by decide) (hall 2 (by decide)) (hall 3 (by decide))
          rw [if_pos (hall 4 (by decide))] at b1
          rw [if_pos (hall 5 (by decide))] at b2
          have f1 : val 2 = _ := e1
          have f2 : val 3 = _ := e2
          have hne : ∀ {a b : Nat}, (.pointer (some ⟨a, 0, none⟩) : Value) ≠ .pointer (some ⟨b, 0, none⟩) → a ≠ b := fun h e => h (by rw [e])
          rw [e1, e2] at d12
          have HFIN := Lib.hid (And.intro (hne d12) (And.intro m1 (And.intro m2 (And.intro hJ.low (And.intro (Lib.hid b1) (Lib.hid b2))))))
          clear d12 m1 m2 b1 b2 e1 e2 hne hJ hall
          simp only [putD, Act.put, List.setIfInBounds_toArray, List.set_cons_succ, List.set_cons_zero]
          rw [f1, f2]
          go_wp2_with (fail)
          go_meet
          exact ⟨g5, g6, rfl, rfl, HFIN.out⟩
      case rest =>
        obtain ⟨g8, g9, rfl, rfl, hd89, hm8, hm9, hB8, b8, b9⟩ := hcut
        obtain ⟨hb8, hz8⟩ := HST.out _ _ _ hb7 hz7 hB8
        obtain ⟨c80, c81, c82, hBw8⟩ := HCP.out wc hb8
        have hz78 := hB8.size
        have hg8 : w.heap.size + 1 ≤ g8 := by omega
        have hg9 : w.heap.size + 1 ≤ g9 := by omega
        have hd98 : g9 ≠ g8 := fun h => hd89 h.symm
        obtain ⟨x82, z82⟩ := b8.out.at_ 2 _ rfl
        obtain ⟨w9, hw9⟩ : ∃ w9, wc.setCell ⟨g8, 2, none⟩ (I fz) = w9 := ⟨_, rfl⟩
        have b8' : Box w9 g8 [.slice A x.sp.length c, I al, I fz] := by rw [← hw9]; exact b8.out.set 2 _
        have b9' : Box w9 g9 [.slice A x.sp.length c, I al, I ah] := by rw [← hw9]; exact b9.out.far (p := ⟨g8, 2, none⟩) hd89 _
        have hb9 : Below (w.heap.size + 1) (w.alloc (.cells #[.slice A x.sp.length c, I al, I ah] 26)) w9 := by rw [← hw9]; exact hb8.setCell hg8 _
        have hz9 : w.heap.size + 1 ≤ w9.heap.size := by rw [← hw9]; simpa using hz8
        obtain ⟨c90, c91, c92, hBw9⟩ := HCP.out w9 hb9
        have B8 := Lib.hid b8'
        have B9 := Lib.hid b9'
        clear b8 b9
        have c9a : (w9.alloc (.cells #[] 48)).cell? ⟨w.heap.size, 0, none⟩ = some (.slice A x.sp.length c) := (HCP.out _ (hb9.alloc hz9 _)).1
        go_wp2_with (first
          | (at_builtin; go_must (refine wpList_append_any _ rfl _ _ 22 rfl w9.heap.size 48 j0 (.agg #[I 0, I 0, I 0, I 0]) 4 32 HU2.out HJ0.out HJ1.out HJ2.out HJ3.out rfl (by decide) _ _ _ rfl (World.ownsRow_made w9 #[] 0 (Nat.le_refl _) (Nat.zero_le _) (by simp)) A x.sp.length c (flat4 x.sp) rfl (by rw [flat4_len]) (fun _ => HFC.out _ (hBw9.alloc hBw9.size _)) (flat4_one x.sp) (by unfold maxLen; omega) (by omega) (by simp) ?_); intro vA wA hownA hgA; obtain ⟨gA, capA, rfl, hBA, hgA1, hgA2, HOA⟩ := app_new hownA hgA h0; clear hownA hgA; obtain ⟨hbA, hzA⟩ := HST.out _ _ _ hb9 hz9 hBA; have bA8 := B8.out.call hBA; have bA9 := B9.out.call hBA; obtain ⟨xA0, zA0⟩ := bA9.at_ 0 _ rfl)
          | fail)
        clear c90 c91 c92 c9a hBw9 B8 B9 xA0 zA0
        obtain ⟨wB, hwB⟩ : ∃ wB, wA.setCell ⟨g9, 0, none⟩ (.slice (some ⟨gA, 0, none⟩) x.sp.length capA) = wB := ⟨_, rfl⟩
        have bB8 : Box wB g8 [.slice A x.sp.length c, I al, I fz] := by rw [← hwB]; exact bA8.far (p := ⟨g9, 0, none⟩) hd98 _
        have bB9 : Box wB g9 [.slice (some ⟨gA, 0, none⟩) x.sp.length capA, I al, I ah] := by rw [← hwB]; exact bA9.set 0 _
        have hgA9 : gA ≠ g9 := by have := bA9.1; have := b9'.1; omega
        have HOB : Hid (wB.ownsRow w9.heap.size 48 4 (.slice (some ⟨gA, 0, none⟩) x.sp.length capA) x.sp.length (flat4 x.sp)) := Lib.hid (by
          rw [← hwB]
          exact HOA.out.kept (grown_set wA ⟨g9, 0, none⟩ _) (.inr (fun e => hgA9 (by injection e))))
        have hbB : Below (w.heap.size + 1) (w.alloc (.cells #[.slice A x.sp.length c, I al, I ah] 26)) wB := by rw [← hwB]; exact hbA.setCell hg9 _
        have hzB : w.heap.size + 1 ≤ wB.heap.size := by rw [← hwB]; simpa using hzA
        rw [hwB]
        have hgA0 : w.heap.size + 1 ≤ gA := by omega
        have hGA8 : gA ≠ g8 := by have := b8'.1; omega
        clear hwB HOA bA8 bA9 b8' b9' hbA hzA hb9 hz9 hBA hgA1 hgA2
        have hne1 := hne.1
        have hne2 := hne.2
        go_loop [22, 23] (fun s22 s23 => ∃ (i N : Nat), i ≤ b ∧ s23 = I i ∧ s22 = I N ∧ (1 ≤ N ∧ N ≤ 64) ∧ Hid (N = 2 ^ i)) (fun _ s => b - (intOf s).toNat)
        case atStart => exact ⟨0, 1, by omega, rfl, rfl, by omega, Lib.hid rfl⟩
        case round =>
          obtain ⟨i, N, hi, rfl, rfl, hN, HN⟩ := hrel
          by_cases hlt : i < b
          · have HN2 : Hid (2 * N = 2 ^ (i + 1)) := Lib.hid (by rw [HN.out, Nat.pow_succ]; omega)
            have hN2 : 2 * N ≤ 64 := by rw [HN2.out]; exact pow_sixB (by omega)
            go_wp2
            go_round
            case rel => exact ⟨i + 1, 2 * N, by omega, by go_num, by go_num, by omega, HN2⟩
            case measure => first | (simp [intOf]; done) | (simp [intOf]; omega)
          · obtain rfl : i = b := by omega
            obtain rfl : N = P := HN.out.trans HPP.out.symm
            go_wp2_with (fail)
            have hmb : m + N < 1000 := by have := HM64.out; omega
            have htm : ne.tmod (x.sp.length : Int) = (i : Int) := by rw [Int.tmod_eq_emod_of_nonneg hne1]; exact hb
            have hz0 : ¬ ((x.sp.length : Int) = 0) := by omega
            have hsp0 : ¬ x.sp = [] := List.length_pos_iff.1 h0
            have hwn : IntKind.i64.wrap ne = ne := IntWalk.i64_in _ (by omega)
            have H24 : Hid (∀ W : World, Calls Try.prog 24 #[I m, I i] W fun e w' => e = .returned (.bool bb) ∧ W = w') := Lib.hid fun W => by
              have := bit24 m i W (by omega) (by omega)
              rwa [HBB.out] at this
            obtain ⟨q0, q1, q2, hq0, hq1, hq2, hq3⟩ := HFN.out
            have hgB := (HOB.out.lt gA rfl).2
            have HCW : Hid (∀ W, Below wB.heap.size wB W → W.cell? ⟨g9, 0, none⟩ = some (.slice (some ⟨gA, 0, none⟩) x.sp.length capA) ∧ W.cell? ⟨gA, k * 4 + 3, none⟩ = some (I m)) := Lib.hid fun W hW => ⟨((bB9.call hW).at_ 0 _ rfl).1, (hW.cell (p := ⟨gA, k * 4 + 3, none⟩) hgB).trans (by rw [HOB.out.cellAt _ (by omega)]; exact hq3)⟩
            have HQ3 := Lib.hid hq3
            have pk1 : (0 : Int) ≤ (k : Int) := by omega
            have pk2 : (k : Int) < (x.sp.length : Int) := by omega
            have B8' := Lib.hid bB8
            have B9' := Lib.hid bB9
            clear hq0 hq1 hq2 hq3 bB8 bB9
            refine (wpIn_wide (n := 9)).1 ?_
            refine wpIn_region_valsB [some 115, some 116, some 117, some 118, some 119, some 120, some 121, some 122, some 123, some 124, some 125, some 126]
              (nthV [.pointer (some ⟨g9, 0, none⟩), .slice (some ⟨gA, 0, none⟩) x.sp.length capA, I k, .pointer (some ⟨gA, k * 4, none⟩), .pointer (some ⟨gA, k * 4 + 3, none⟩), I m, .int .u8 ne, I ne, I x.sp.length, I i, .bool bb, .bool (!bb)])
              [(21, .pointer (some ⟨g9, 0, none⟩)), (15, I k), (3, .int .u8 ne), (14, I x.sp.length)]
              (fun W => Below wB.heap.size wB W) rfl (by kernel_rfl) (fun _ => trivial) (by kernel_rfl) (by kernel_rfl) (by kernel_rfl) ⟨rfl, rfl, rfl, rfl, trivial⟩ (fun _ d _ _ _ h => by cases d <;> exact h) (by first | exact (Below.refl _ _).drew | exact (below_drewN (Below.refl _ _) _).drew) ?_ ?_
            · refine ⟨?_, ?_, ?_, ?_, ?_, ?_, ?_, ?_, ?_, ?_, ?_, ?_, trivial⟩
              all_goals (intro x0 W hC; obtain ⟨n0, n1⟩ := HCW.out _ hC)
              all_goals first
                | (refine e_no rfl ?_; rfl)
                | (refine e_yes rfl ?_; intro b e hb K hK)
              all_goals first
                | (refine opE_li rfl hb ?_; simp only [execOp, resolve, Oper.about, envB, lookB, lookV, nthV, List.map_toArray, List.map_cons, List.map_nil, Nat.reduceEqDiff, reduceIte, Nat.succ_ne_zero, Nat.zero_ne_one, Nat.one_ne_zero, Nat.reduceAdd, Nat.zero_add]; go_simp; exact hK _ hC)
                | (refine opE_call rfl hb (fun _ => trivial) (fun h => (by cases h)) 24 #[I m, I i] ?_ ?_
                   · (simp only [execOp, resolve, Oper.about, envB, lookB, lookV, nthV, List.map_toArray, List.map_cons, List.map_nil, Nat.reduceEqDiff, reduceIte, Nat.succ_ne_zero, Nat.zero_ne_one, Nat.one_ne_zero, Nat.reduceAdd, Nat.zero_add])
                     go_simp
                   · refine callsIn_wide.2 ((H24.out _).mono ?_)
                     rintro e w6 ⟨rfl, rfl⟩
                     exact ⟨_, rfl, hK _ hC⟩)
            · (intro W hC; have HC := Lib.hid hC; clear hC; simp only [putD, nthV, Act.put, List.setIfInBounds_toArray, List.set_cons_succ, List.set_cons_zero, Nat.zero_add, Nat.reduceAdd])
              have hCo := HC.out
              clear HC
              have hbD := hbB.trans (hCo.mono hzB)
              have hzD : w.heap.size + 1 ≤ W.heap.size := by have := hCo.size; omega
              have D8 := Lib.hid (B8'.out.call hCo)
              have D9 := Lib.hid (B9'.out.call hCo)
              have HOD := Lib.hid (grown_own HOB.out hCo)
              cases bb
              · have HWS := Lib.hid (HWS2.out rfl)
                go_wp2_with (fail)
                obtain ⟨n90, _⟩ := D9.out.at_ 0 _ rfl
                have na3 : W.cell? ⟨gA, k * 4 + 3, none⟩ = some (I m) := by rw [HOD.out.cellAt _ (by omega)]; exact HQ3.out
                have nf3 : W.frozen? ⟨gA, k * 4 + 3, none⟩ = false := HOD.out.frozenAt _
                have hwp : IntKind.i64.wrap ((m : Int) + (N : Int)) = (m : Int) + (N : Int) := IntWalk.i64_in _ (by omega)
                refine (wpIn_wide (n := 9)).1 ?_
                refine wpIn_region_plan (Plan.ons [0, 1, 2, 3, 4, 5, 6, 7, 8, 9, 10, 11, 12, 13] .fin) [] (fun _ => True) [] rfl (by kernel_rfl) (by kernel_rfl) (fun _ d _ _ _ h => by cases d <;> exact h) trivial ?_
                iterate 13 (refine ordQ_li rfl rfl rfl (fun K hK => ?_); go_simp; refine hK _ ?_; clear hK K)
                (refine ordQ_hv rfl rfl rfl (fun K hK => ?_); gi_wp2; refine hK _ _ (fun _ => trivial) ?_; clear hK K)
                refine ordQ_fin ?_
                obtain ⟨wE, hwE⟩ : ∃ wE, (W.setCell ⟨gA, k * 4 + 3, none⟩ (I ((m : Int) + (N : Int)))).drew = wE := ⟨_, rfl⟩
                have hg8A : gA ≠ g8 := hGA8
                have E8 : Hid (Box wE g8 [.slice A x.sp.length c, I al, I fz]) := Lib.hid (by rw [← hwE]; exact (D8.out.far (p := ⟨gA, k * 4 + 3, none⟩) hg8A _).drew)
                have E9 : Hid (Box wE g9 [.slice (some ⟨gA, 0, none⟩) x.sp.length capA, I al, I ah]) := Lib.hid (by rw [← hwE]; exact (D9.out.far (p := ⟨gA, k * 4 + 3, none⟩) hgA9 _).drew)
                have HOE : Hid (wE.ownsRow w9.heap.size 48 4 (.slice (some ⟨gA, 0, none⟩) x.sp.length capA) x.sp.length (flat4 wsp)) := Lib.hid (by rw [← hwE, HWS.out]; exact ((HOD.out.stored (k * 4 + 3) _).1).drew)
                have hbE : Below (w.heap.size + 1) (w.alloc (.cells #[.slice A x.sp.length c, I al, I ah] 26)) wE := by rw [← hwE]; exact (hbD.setCell (p := ⟨gA, k * 4 + 3, none⟩) hgA0 _).drew
                have hzE : w.heap.size + 1 ≤ wE.heap.size := by rw [← hwE]; simpa using hzD
                rw [hwE]
                clear hwE na3 nf3 n90
                obtain ⟨cE0, cE1, cE2, hBwE⟩ := HCP.out _ hbE
                obtain ⟨e80, _⟩ := E8.out.at_ 0 _ rfl
                obtain ⟨e81, _⟩ := E8.out.at_ 1 _ rfl
                obtain ⟨e82, _⟩ := E8.out.at_ 2 _ rfl
                have u1 : True := trivial
                have u2 : True := trivial
                rcases HGZ.out with rfl | rfl
                · go_wp2_with (first
                    | (go_at_call 15; have _t := u1; with_reducible refine (HF15.out _ (HFI.out _ hBwE).1 (HFI.out _ hBwE).2).mono ?_; rintro e wF ⟨le1, le2, rfl, hBF⟩; clear u1; obtain ⟨hbF, hzF⟩ := HST.out _ _ _ hbE hzE hBF; obtain ⟨c0F, c1F, c2F, hBwF⟩ := HCP.out wF hbF; have bF8 := E8.out.call hBF; have bF9 := E9.out.call hBF; have HOF := Lib.hid (grown_own HOE.out hBF); obtain ⟨y90, _⟩ := bF9.at_ 0 _ rfl; obtain ⟨y91, _⟩ := bF9.at_ 1 _ rfl; obtain ⟨y92, _⟩ := bF9.at_ 2 _ rfl)
                    | (go_at_call 15; have _t := u2; with_reducible refine (HW15.out _ _ _ (fours_own HOF.out) (HFI.out _ hBwF).2).mono ?_; rintro e wG ⟨le3, le4, rfl, hBG⟩; clear u2; obtain ⟨hbG, hzG⟩ := HST.out _ _ _ hbF hzF hBG; obtain ⟨c0G, c1G, c2G, hBwG⟩ := HCP.out wG hbG; have bG8 := bF8.call hBG; obtain ⟨z80, _⟩ := bG8.at_ 0 _ rfl; obtain ⟨z81, _⟩ := bG8.at_ 1 _ rfl; obtain ⟨z82, _⟩ := bG8.at_ 2 _ rfl)
                    | (go_at_call 10; refine (H10.out _).mono ?_; rintro e wI ⟨rfl, hBI⟩)
                    | fail)
                  refine bodyPost_ret (v := .bool true) (by simp [results, Try.results7, go_sem]) rfl ⟨rfl, hBwG.trans (hBI.mono hBwG.size)⟩
                · go_wp2_with (first
                    | (go_at_call 15; have _t := u1; with_reducible refine (HF15.out _ (HFI.out _ hBwE).1 (HFI.out _ hBwE).2).mono ?_; rintro e wF ⟨le1, le2, rfl, hBF⟩; clear u1; obtain ⟨hbF, hzF⟩ := HST.out _ _ _ hbE hzE hBF; obtain ⟨c0F, c1F, c2F, hBwF⟩ := HCP.out wF hbF; have bF8 := E8.out.call hBF; have bF9 := E9.out.call hBF; have HOF := Lib.hid (grown_own HOE.out hBF); obtain ⟨y90, _⟩ := bF9.at_ 0 _ rfl; obtain ⟨y91, _⟩ := bF9.at_ 1 _ rfl; obtain ⟨y92, _⟩ := bF9.at_ 2 _ rfl)
                    | (go_at_call 15; have _t := u2; with_reducible refine (HW15.out _ _ _ (fours_own HOF.out) (HFI.out _ hBwF).2).mono ?_; rintro e wG ⟨le3, le4, rfl, hBG⟩; clear u2; obtain ⟨hbG, hzG⟩ := HST.out _ _ _ hbF hzF hBG; obtain ⟨c0G, c1G, c2G, hBwG⟩ := HCP.out wG hbG; have bG8 := bF8.call hBG; obtain ⟨z80, _⟩ := bG8.at_ 0 _ rfl; obtain ⟨z81, _⟩ := bG8.at_ 1 _ rfl; obtain ⟨z82, _⟩ := bG8.at_ 2 _ rfl)
                    | (go_at_call 17; refine (HF17.out (by first | trivial | rfl) _ (HFI.out _ hBwG).1).mono ?_; rintro e wH ⟨rfl, hBH⟩; have hBwH := hBwG.trans (hBH.mono hBwG.size))
                    | (go_at_call 10; refine (H10.out _).mono ?_; rintro e wI ⟨rfl, hBI⟩)
                    | fail)
                  refine bodyPost_ret (v := .bool true) (by simp [results, Try.results7, go_sem]) rfl ⟨rfl, hBwH.trans (hBI.mono hBwH.size)⟩
              · have HWS := Lib.hid (HWS1.out rfl)
                have E8 := D8
                have E9 := D9
                have HOE : Hid (W.ownsRow w9.heap.size 48 4 (.slice (some ⟨gA, 0, none⟩) x.sp.length capA) x.sp.length (flat4 wsp)) := Lib.hid (by rw [HWS.out]; exact HOD.out)
                have hbE := hbD
                have hzE := hzD
                obtain ⟨cE0, cE1, cE2, hBwE⟩ := HCP.out _ hbE
                obtain ⟨e80, _⟩ := E8.out.at_ 0 _ rfl
                obtain ⟨e81, _⟩ := E8.out.at_ 1 _ rfl
                obtain ⟨e82, _⟩ := E8.out.at_ 2 _ rfl
                have u1 : True := trivial
                have u2 : True := trivial
                rcases HGZ.out with rfl | rfl
                · go_wp2_with (first
                    | (go_at_call 15; have _t := u1; with_reducible refine (HF15.out _ (HFI.out _ hBwE).1 (HFI.out _ hBwE).2).mono ?_; rintro e wF ⟨le1, le2, rfl, hBF⟩; clear u1; obtain ⟨hbF, hzF⟩ := HST.out _ _ _ hbE hzE hBF; obtain ⟨c0F, c1F, c2F, hBwF⟩ := HCP.out wF hbF; have bF8 := E8.out.call hBF; have bF9 := E9.out.call hBF; have HOF := Lib.hid (grown_own HOE.out hBF); obtain ⟨y90, _⟩ := bF9.at_ 0 _ rfl; obtain ⟨y91, _⟩ := bF9.at_ 1 _ rfl; obtain ⟨y92, _⟩ := bF9.at_ 2 _ rfl)
                    | (go_at_call 15; have _t := u2; with_reducible refine (HW15.out _ _ _ (fours_own HOF.out) (HFI.out _ hBwF).2).mono ?_; rintro e wG ⟨le3, le4, rfl, hBG⟩; clear u2; obtain ⟨hbG, hzG⟩ := HST.out _ _ _ hbF hzF hBG; obtain ⟨c0G, c1G, c2G, hBwG⟩ := HCP.out wG hbG; have bG8 := bF8.call hBG; obtain ⟨z80, _⟩ := bG8.at_ 0 _ rfl; obtain ⟨z81, _⟩ := bG8.at_ 1 _ rfl; obtain ⟨z82, _⟩ := bG8.at_ 2 _ rfl)
                    | (go_at_call 10; refine (H10.out _).mono ?_; rintro e wI ⟨rfl, hBI⟩)
                    | fail)
                  refine bodyPost_ret (v := .bool true) (by simp [results, Try.results7, go_sem]) rfl ⟨rfl, hBwG.trans (hBI.mono hBwG.size)⟩
                · go_wp2_with (first
                    | (go_at_call 15; have _t := u1; with_reducible refine (HF15.out _ (HFI.out _ hBwE).1 (HFI.out _ hBwE).2).mono ?_; rintro e wF ⟨le1, le2, rfl, hBF⟩; clear u1; obtain ⟨hbF, hzF⟩ := HST.out _ _ _ hbE hzE hBF; obtain ⟨c0F, c1F, c2F, hBwF⟩ := HCP.out wF hbF; have bF8 := E8.out.call hBF; have bF9 := E9.out.call hBF; have HOF := Lib.hid (grown_own HOE.out hBF); obtain ⟨y90, _⟩ := bF9.at_ 0 _ rfl; obtain ⟨y91, _⟩ := bF9.at_ 1 _ rfl; obtain ⟨y92, _⟩ := bF9.at_ 2 _ rfl)
                    | (go_at_call 15; have _t := u2; with_reducible refine (HW15.out _ _ _ (fours_own HOF.out) (HFI.out _ hBwF).2).mono ?_; rintro e wG ⟨le3, le4, rfl, hBG⟩; clear u2; obtain ⟨hbG, hzG⟩ := HST.out _ _ _ hbF hzF hBG; obtain ⟨c0G, c1G, c2G, hBwG⟩ := HCP.out wG hbG; have bG8 := bF8.call hBG; obtain ⟨z80, _⟩ := bG8.at_ 0 _ rfl; obtain ⟨z81, _⟩ := bG8.at_ 1 _ rfl; obtain ⟨z82, _⟩ := bG8.at_ 2 _ rfl)
                    | (go_at_call 17; refine (HF17.out (by first | trivial | rfl) _ (HFI.out _ hBwG).1).mono ?_; rintro e wH ⟨rfl, hBH⟩; have hBwH := hBwG.trans (hBH.mono hBwG.size))
                    | (go_at_call 10; refine (H10.out _).mono ?_; rintro e wI ⟨rfl, hBI⟩)
                    | fail)
                  refine bodyPost_ret (v := .bool true) (by simp [results, Try.results7, go_sem]) rfl ⟨rfl, hBwH.trans (hBI.mono hBwH.size)⟩
  · go_wp2_with (first
      | (go_at_call 10; refine (H10.out _).mono ?_; rintro e w2 ⟨rfl, hB2⟩)
      | fail)
    refine bodyPost_ret (v := .bool true) (by simp [results, Try.results7, go_sem]) rfl ⟨rfl, hBw1.trans (hB2.mono hBw1.size)⟩
theorem more_any (x : Prk) (A C : Option Addr) (c f : Nat) (l : List Int) (wh ne le : Int) (w : World) (hA : Fours w w.heap.size A x.sp) (hx : Prk64 x) (hl : Ints w w.heap.size C l) (hll : l.length ≤ 9223372036854775807) (hwh : 0 ≤ wh ∧ wh ≤ 255) (hne : 0 ≤ ne ∧ ne ≤ 255) (hle : 0 ≤ le ∧ le ≤ 65535) :
    Calls Try.prog 7 #[x.val A c, .slice C l.length f, .int .u8 wh, .int .u8 ne, .int .u16 le] w fun e w' => e = .returned (.bool true) ∧ Below w.heap.size w w' := by
  by_cases h4 : (lackR x l).2.2 = 4
  · rcases Nat.eq_zero_or_pos x.sp.length with h0 | h0
    · exact more_zero x A C c f l wh ne le w hA hx hl hll hwh hne hle h4 h0
    · exact more_ok x A C c f l wh ne le w hA hx hl hll hwh hne hle h4 h0
  · exact more_not x A C c f l wh ne le w hA hx hl hll hwh hne hle h4
end Go.Proofs.Ytfebhofihioaoaa
