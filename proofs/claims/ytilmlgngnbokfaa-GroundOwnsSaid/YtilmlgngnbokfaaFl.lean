/- GroundOwns: flat. Under way. -/
import Derived.Test.YtilmlgngnbokfaaX4
import Derived.Test.YtilmlgngnbokfaaAi
import Derived.Test.YtilmlgngnbokfaaMo
namespace Go.Proofs.Ytilmlgngnbokfaa
set_option linter.unusedVariables false
set_option linter.unusedSimpArgs false
open Go Go.RowKit

/-- All the numbers that came in, in a row. -/
def flatL (g : Grd) (l : List (Int × Int × Int)) (d : Deck) : List Int := d.posts ++ d.lengths ++ (g.radar.flatMap fun s => [s.1, s.2]) ++ l.flatMap fun s => [s.1, s.2.1, s.2.2]

set_option maxRecDepth 100000 in
set_option maxHeartbeats 2000000 in
theorem flat_any (bd bg bl : Nat) (A : Option Addr) (c : Nat) (g : Grd) (B : Option Addr) (cb : Nat) (l : List (Int × Int × Int)) (Ap Al : Option Addr) (cp cl : Nat) (d : Deck) (w : World) (ha : Args w A g B l Ap Al d)
    (hd0 : w.cell? ⟨bd, 0, none⟩ = some (.slice Ap d.posts.length cp)) (hd1 : w.cell? ⟨bd, 1, none⟩ = some (.slice Al d.lengths.length cl)) (hg2 : w.cell? ⟨bg, 2, none⟩ = some (.slice A g.radar.length c)) (hl0 : w.cell? ⟨bl, 0, none⟩ = some (.slice B l.length cb))
    (hbd : bd < w.heap.size ∧ bg < w.heap.size ∧ bl < w.heap.size) (hfew : g.radar.length ≤ 410 ∧ l.length ≤ 70 ∧ d.posts.length ≤ 30 ∧ d.lengths.length ≤ 30) :
    Calls Try.prog 33 #[.pointer (some ⟨bd, 0, none⟩), .pointer (some ⟨bg, 0, none⟩), .pointer (some ⟨bl, 0, none⟩)] w fun e w' => ∃ v, e = .returned v ∧ w'.ownsRow w.heap.size 3 1 v (flatL g l d).length ((flatL g l d).map I) ∧ Below w.heap.size w w' := by
  obtain ⟨i0, hi0, hi1, hi2, hi3⟩ := info_parts info3
  have hu22 : Try.prog.underlying 22 = some (.slice 3) := Try.underlying22
  have HU := Lib.hid hu22; have HI0 := Lib.hid hi0; have HI1 := Lib.hid hi1; have HI2 := Lib.hid hi2; have HI3 := Lib.hid hi3
  clear hu22 hi0 hi1 hi2 hi3
  obtain ⟨hbd1, hbd2, hbd3⟩ := hbd
  go_enter Try.func33, Try.ntmps33
  go_wp2
  refine (wpIn_wide (n := 9)).1 ?_
  refine wpIn_region_plan (Plan.ons [1, 2, 4, 5, 0, 3, 6, 7] .fin) [1, 2, 4, 5] (fun W => W.cell? ⟨bd, 0, none⟩ = some (.slice Ap d.posts.length cp) ∧ W.cell? ⟨bd, 1, none⟩ = some (.slice Al d.lengths.length cl)) [] rfl (by kernel_rfl) (by kernel_rfl) (fun _ d _ _ _ h => by cases d <;> exact h) ⟨by simpa using hd0, by simpa using hd1⟩ ?_
  (refine ordQ_held (.pointer (some ⟨bd, 0, none⟩)) rfl rfl rfl rfl (fun W' hC' => ?_) (fun K hK => ?_); (focus (obtain ⟨e0, e1⟩ := hC'; go_simp; try exact ⟨rfl, rfl⟩)); go_simp; refine hK _ ?_; clear hK K)
  (refine ordQ_held (.slice Ap d.posts.length cp) rfl rfl rfl rfl (fun W' hC' => ?_) (fun K hK => ?_); (focus (obtain ⟨e0, e1⟩ := hC'; go_simp; try exact ⟨rfl, rfl⟩)); go_simp; refine hK _ ?_; clear hK K)
  (refine ordQ_held (.pointer (some ⟨bd, 1, none⟩)) rfl rfl rfl rfl (fun W' hC' => ?_) (fun K hK => ?_); (focus (obtain ⟨e0, e1⟩ := hC'; go_simp; try exact ⟨rfl, rfl⟩)); go_simp; refine hK _ ?_; clear hK K)
  (refine ordQ_held (.slice Al d.lengths.length cl) rfl rfl rfl rfl (fun W' hC' => ?_) (fun K hK => ?_); (focus (obtain ⟨e0, e1⟩ := hC'; go_simp; try exact ⟨rfl, rfl⟩)); go_simp; refine hK _ ?_; clear hK K)
  refine ordQ_hv rfl rfl rfl (fun K hK => ?_)
  gi_wp2
  refine hK _ _ (fun _ => ⟨by simp [go_sem, hd0, hbd1, Nat.ne_of_lt hbd1], by simp [go_sem, hd1, hbd1, Nat.ne_of_lt hbd1]⟩) ?_
  clear hK K
  refine ordQ_hv rfl rfl rfl (fun K hK => ?_)
  refine opIn_append_ints rfl _ _ _ 22 rfl w.heap.size 3 i0 8 HU.out HI0.out HI1.out HI2.out HI3.out (.slice (some ⟨w.heap.size, 0, none⟩) 0 0) 0 [] rfl (World.ownsRow_made w #[] 0 (Nat.le_refl _) (Nat.zero_le _) (by simp)) Ap cp d.posts rfl ?hI1 (by simp [maxLen]; omega) (by omega) (by simp) ?_
  case hI1 => exact (ha.hp.below ((Below.refl _ w).alloc (Nat.le_refl _) _)).more (by simp)
  intro v1 w1 hown1 hg1
  have hB1 : Below w.heap.size w w1 := ((Below.refl _ w).alloc (Nat.le_refl _) (.cells #[] 3)).drew.grown hg1 (by simp) (by intro k hk; simp [Value.ownBlock] at hk; omega)
  have hown1' : w1.ownsRow w.heap.size 3 1 v1 d.posts.length (d.posts.map I) := by simpa using hown1
  have hz1 := hB1.size
  clear hown1 hg1
  refine hK _ _ (fun _ => ⟨(hB1.cell (p := ⟨bd, 0, none⟩) hbd1).trans hd0, (hB1.cell (p := ⟨bd, 1, none⟩) hbd1).trans hd1⟩) ?_
  clear hK K
  refine ordQ_hv rfl rfl rfl (fun K hK => ?_)
  refine opIn_append_ints rfl _ _ _ 22 rfl w.heap.size 3 i0 8 HU.out HI0.out HI1.out HI2.out HI3.out v1 d.posts.length (d.posts.map I) rfl hown1' Al cl d.lengths rfl ?hI2 (by simp [maxLen]; omega) (by omega) hz1 ?_
  case hI2 => exact (ha.hb.below hB1).more hz1
  intro v2 w2 hown2 hg2'
  have hB2 : Below w.heap.size w w2 := hB1.grown hg2' hz1 (fun k hk => (hown1'.lt k hk).1)
  rw [← List.map_append] at hown2
  clear hg2' hown1'
  refine hK _ _ (fun _ => ⟨(hB2.cell (p := ⟨bd, 0, none⟩) hbd1).trans hd0, (hB2.cell (p := ⟨bd, 1, none⟩) hbd1).trans hd1⟩) ?_
  clear hK K
  (refine ordQ_li rfl rfl rfl (fun K hK => ?_); go_simp; refine hK _ ?_; clear hK K)
  refine ordQ_fin ?_
  have h2g := (hB2.cell (p := ⟨bg, 2, none⟩) hbd2).trans hg2
  have h2l := (hB2.cell (p := ⟨bl, 0, none⟩) hbd3).trans hl0
  have HOWN2 := Lib.hid hown2
  clear hown2
  go_wp2
  go_loopw [4, 19] (fun s4 s19 wr => ∃ k : Nat, k ≤ g.radar.length ∧ s19 = I k ∧ Below w.heap.size w wr ∧ Hid (wr.ownsRow w.heap.size 3 1 s4 (d.posts.length + d.lengths.length + 2 * k) ((d.posts ++ d.lengths ++ (g.radar.take k).flatMap fun s => [s.1, s.2]).map I))) (fun _ s19 _ => g.radar.length - (intOf s19).toNat)
  case atStart => exact ⟨0, Nat.zero_le _, rfl, hB2, Lib.hid (by simpa using HOWN2.out)⟩
  case round =>
    obtain ⟨k, hk, rfl, hBr, hown⟩ := hrel
    have hzr := hBr.size
    by_cases hlt : k < g.radar.length
    · obtain ⟨rb, ro, rfl, hrb, hrc⟩ := (ha.hr.below hBr) (by omega)
      obtain ⟨q0, q1⟩ := hrc k hlt
      have hsn : (g.radar.take (k + 1)).flatMap (fun s => [s.1, s.2]) = (g.radar.take k).flatMap (fun s => [s.1, s.2]) ++ [g.radar[k].1, g.radar[k].2] := by rw [List.take_succ_eq_append_getElem hlt, List.flatMap_append]; simp
      generalize g.radar[k].1 = z1 at q0 hsn
      generalize g.radar[k].2 = z2 at q1 hsn
      have HSN := Lib.hid hsn
      clear hsn hrc
      have HOWN := Lib.hid ((hown.out.alloc (.cells #[I z1, I z2] 53)).alloc (.cells #[I z1, I z2] 3))
      have HBA : Hid (Below w.heap.size w ((wr.alloc (.cells #[I z1, I z2] 53)).alloc (.cells #[I z1, I z2] 3))) := Lib.hid ((hBr.alloc hzr _).alloc (by simp; omega) _)
      have hnew : ∀ j u, [I z1, I z2][j]? = some u → ((wr.alloc (.cells #[I z1, I z2] 53)).alloc (.cells #[I z1, I z2] 3)).cell? ((⟨wr.heap.size + 1, 0, none⟩ : Addr).add j) = some u := fun j u hj => by
        rw [Addr.add_lit]
        rcases j with _ | _ | j <;> simp at hj
        all_goals (subst hj; simp [go_sem])
      have HNEW := Lib.hid hnew
      clear hnew hown
      go_wp2_with (at_builtin; refine wpList_append_own _ rfl _ _ 22 rfl w.heap.size 3 i0 (.int .i64 0) 1 8 HU.out HI0.out HI1.out HI2.out HI3.out rfl (by decide) _ _ _ rfl HOWN.out ⟨wr.heap.size + 1, 0, none⟩ 2 2 [I z1, I z2] rfl rfl HNEW.out (fun u hu => by simp at hu; rcases hu with rfl | rfl <;> rfl) (by simp [maxLen]; omega) (by omega) (by simp; omega) ?_; intro v' w3 hown3 hgrow hnil; have hB3 := HBA.out.grown hgrow (by simp; omega) (fun k hk => (HOWN.out.lt k hk).1); have HOWN3 := Lib.hid hown3; clear hown3 hgrow hnil)
      go_roundw
      case rel => exact ⟨k + 1, by omega, by go_num, hB3, Lib.hid (by rw [HSN.out]; have := HOWN3.out; simpa [Nat.mul_add, Nat.add_assoc] using this)⟩
      case measure => simp [intOf]; omega
    · obtain rfl : k = g.radar.length := by omega
      rw [List.take_length] at hown
      generalize hpre : (d.posts ++ d.lengths ++ g.radar.flatMap fun s => [s.1, s.2]) = pre at hown
      have hpl : pre.length = d.posts.length + d.lengths.length + 2 * g.radar.length := by have := hown.out.1; simpa using this
      rw [← hpl] at hown
      have hflat : flatL g l d = pre ++ l.flatMap fun s => [s.1, s.2.1, s.2.2] := by unfold flatL; rw [hpre]
      have HFLAT := Lib.hid hflat
      have hrl := (hBr.cell (p := ⟨bl, 0, none⟩) hbd3).trans hl0
      clear hpre hflat
      go_wp2
      go_loopw [4, 33] (fun s4 s33 wr => ∃ k : Nat, k ≤ l.length ∧ s33 = I k ∧ Below w.heap.size w wr ∧ Hid (wr.ownsRow w.heap.size 3 1 s4 (pre.length + 3 * k) ((pre ++ (l.take k).flatMap fun s => [s.1, s.2.1, s.2.2]).map I))) (fun _ s33 _ => l.length - (intOf s33).toNat)
      case atStart => exact ⟨0, Nat.zero_le _, rfl, hBr, Lib.hid (by simpa using hown.out)⟩
      case round =>
        clear hBr hzr hown hrl
        obtain ⟨k, hk, rfl, hBr, hown⟩ := hrel
        have hzr := hBr.size
        by_cases hlt : k < l.length
        · obtain ⟨rb, ro, rfl, hrb, hrc⟩ := (ha.hl.below hBr) (by omega)
          obtain ⟨q0, q1, q2⟩ := hrc k hlt
          have hsn : (l.take (k + 1)).flatMap (fun s => [s.1, s.2.1, s.2.2]) = (l.take k).flatMap (fun s => [s.1, s.2.1, s.2.2]) ++ [l[k].1, l[k].2.1, l[k].2.2] := by rw [List.take_succ_eq_append_getElem hlt, List.flatMap_append]; simp
          generalize l[k].1 = z1 at q0 hsn
          generalize l[k].2.1 = z2 at q1 hsn
          generalize l[k].2.2 = z3 at q2 hsn
          have HSN := Lib.hid hsn
          clear hsn hrc
          have HOWN := Lib.hid ((hown.out.alloc (.cells #[I z1, I z2, I z3] 55)).alloc (.cells #[I z1, I z2, I z3] 3))
          have HBA : Hid (Below w.heap.size w ((wr.alloc (.cells #[I z1, I z2, I z3] 55)).alloc (.cells #[I z1, I z2, I z3] 3))) := Lib.hid ((hBr.alloc hzr _).alloc (by simp; omega) _)
          have hnew : ∀ j u, [I z1, I z2, I z3][j]? = some u → ((wr.alloc (.cells #[I z1, I z2, I z3] 55)).alloc (.cells #[I z1, I z2, I z3] 3)).cell? ((⟨wr.heap.size + 1, 0, none⟩ : Addr).add j) = some u := fun j u hj => by
            rw [Addr.add_lit]
            rcases j with _ | _ | _ | j <;> simp at hj
            all_goals (subst hj; simp [go_sem])
          have HNEW := Lib.hid hnew
          clear hnew hown
          go_wp2_with (at_builtin; refine wpList_append_own _ rfl _ _ 22 rfl w.heap.size 3 i0 (.int .i64 0) 1 8 HU.out HI0.out HI1.out HI2.out HI3.out rfl (by decide) _ _ _ rfl HOWN.out ⟨wr.heap.size + 1, 0, none⟩ 3 3 [I z1, I z2, I z3] rfl rfl HNEW.out (fun u hu => by simp at hu; rcases hu with rfl | rfl | rfl <;> rfl) (by simp [maxLen]; omega) (by omega) (by simp; omega) ?_; intro v' w3 hown3 hgrow hnil; have hB3 := HBA.out.grown hgrow (by simp; omega) (fun k hk => (HOWN.out.lt k hk).1); have HOWN3 := Lib.hid hown3; clear hown3 hgrow hnil)
          go_roundw
          case rel => exact ⟨k + 1, by omega, by go_num, hB3, Lib.hid (by rw [HSN.out]; have := HOWN3.out; simpa [Nat.mul_add, Nat.add_assoc] using this)⟩
          case measure => simp [intOf]; omega
        · obtain rfl : k = l.length := by omega
          rw [List.take_length, ← HFLAT.out] at hown
          have hfl : (flatL g l d).length = pre.length + 3 * l.length := by have := hown.out.1; simpa using this
          rw [← hfl] at hown
          go_wp2
          go_ret
          exact ⟨_, rfl, hown.out, hBr⟩
end Go.Proofs.Ytilmlgngnbokfaa
