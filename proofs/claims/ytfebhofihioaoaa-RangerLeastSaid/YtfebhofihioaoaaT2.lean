/- RangerLeast: the walk. -/
import Derived.Test.YtfebhofihioaoaaS28
import Derived.Test.YtfebhofihioaoaaA13
import Derived.Test.YtfebhofihioaoaaO13
import Derived.Laws.AppendOwnNone
namespace Go.Proofs.Ytfebhofihioaoaa
set_option linter.unusedVariables false
set_option linter.unusedSimpArgs false
open Go Go.RowKit

/-- The other posts, so far. -/
def OthK (k : Nat) (s : Int) (o : List Int) : Prop := o.length = k ∧ o.sum = s ∧ ∀ j (h : j < o.length), 0 ≤ o[j] ∧ o[j] ≤ 12
theorem OthK.step {k : Nat} {s m : Int} {o : List Int} (h : OthK k s o) (h0 : 0 ≤ m) (h1 : m ≤ 12) : OthK (k + 1) (s + m) (o ++ [m]) := by
  refine ⟨by simp [h.1], by simp [h.2.1], fun j hj => ?_⟩
  rw [List.getElem_append]
  split
  · rename_i h2
    exact h.2.2 j h2
  · simpa using ⟨h0, h1⟩
theorem ints_at {W : World} {N : Nat} {A : Option Addr} {l : List Int} (h : Ints W N A l) {k : Nat} (hk : k < l.length) : ∃ b off, A = some ⟨b, off, none⟩ ∧ b < N ∧ W.cell? ⟨b, off + k, none⟩ = some (I (crF l k)) := by
  obtain ⟨b, off, h1, h2, h3⟩ := h (by omega)
  refine ⟨b, off, h1, h2, ?_⟩
  rw [h3 k hk]
  simp [crF, List.getD, hk]
set_option maxRecDepth 100000 in
set_option maxHeartbeats 8000000 in
theorem least_false (x : Prk) (A B : Option Addr) (c d : Nat) (ys : List Int) (w : World) (hA : Fours w w.heap.size A x.sp) (hx : Prk64 x) (hy : BytesW w w.heap.size B ys) (hyl : ys.length ≤ 9223372036854775807) (hyb : ∀ y ∈ ys, 0 ≤ y ∧ y ≤ 255) (hp : prkB x = false) :
    Calls Try.prog 8 #[x.val A c, .slice B ys.length d] w fun e w' => e = .returned (.bool true) ∧ Below w.heap.size w w' := by
  have HFI : Hid (∀ W, Below w.heap.size w W → Fours W W.heap.size A x.sp ∧ BytesW W W.heap.size B ys) := Lib.hid fun W hW => ⟨(hA.below hW).more hW.size, (hy.below hW).more hW.size⟩
  have hxl := hx.len
  have H9 : Hid (∀ W : World, Fours W W.heap.size A x.sp → Calls Try.prog 9 #[.agg #[.slice A x.sp.length c, I x.alo, I x.ahi]] W fun e w' => ∃ b : Bool, e = .returned (.bool b) ∧ Below W.heap.size W w') := Lib.hid fun W h => busy9 x A c W h hx
  have H10 : Hid (∀ W : World, Calls Try.prog 10 #[] W fun e w' => e = .returned (.bool true) ∧ Below W.heap.size W w') := Lib.hid awake10
  have HYB := Lib.hid hyb
  have H18 : Hid (∀ W : World, Fours W W.heap.size A x.sp → Calls Try.prog 18 #[.agg #[.slice A x.sp.length c, I x.alo, I x.ahi]] W fun e w' => ∃ (B : Option Addr) (d : Nat), e = .returned (.tuple #[.slice B 0 d, I 1]) ∧ Below W.heap.size W w') := Lib.hid fun W h => by
    have hr : fewR x = ([], 1) := by unfold fewR; rw [hp]; rfl
    have := fewest18 x A c W h hxl
    rw [hr] at this
    exact this.mono fun e w' ⟨B, d, h1, _, h2⟩ => ⟨B, d, h1, h2⟩
  have H17 : Hid (∀ W : World, Fours W W.heap.size A x.sp → Calls Try.prog 17 #[.agg #[.slice A x.sp.length c, I x.alo, I x.ahi]] W fun e w' => e = .returned (.bool false) ∧ Below W.heap.size W w') := Lib.hid fun W h => by
    have := park17 x A c W h hxl
    rwa [hp] at this
  clear hp
  clear hA hx hy hyb
  simp only [Prk.val]
  generalize x.alo = al at *
  generalize x.ahi = ah at *
  have HW : Hid (Below w.heap.size w (w.alloc (.cells #[.slice A x.sp.length c, I al, I ah] 26))) := Lib.hid (below1 _ _)
  have HCP : Hid (∀ W, Below (w.heap.size + 1) (w.alloc (.cells #[.slice A x.sp.length c, I al, I ah] 26)) W → W.cell? ⟨w.heap.size, 0, none⟩ = some (.slice A x.sp.length c) ∧ W.cell? ⟨w.heap.size, 1, none⟩ = some (I al) ∧ W.cell? ⟨w.heap.size, 2, none⟩ = some (I ah) ∧ Below w.heap.size w W) := Lib.hid fun W hW =>
    ⟨(hW.cell (p := ⟨_, _, none⟩) (by simp)).trans (by simp [go_sem]), (hW.cell (p := ⟨_, _, none⟩) (by simp)).trans (by simp [go_sem]), (hW.cell (p := ⟨_, _, none⟩) (by simp)).trans (by simp [go_sem]), (below1 w _).trans (hW.mono (by omega))⟩
  have HST : Hid (∀ V W X : World, Below (w.heap.size + 1) V W → w.heap.size + 1 ≤ W.heap.size → Below W.heap.size W X → Below (w.heap.size + 1) V X ∧ w.heap.size + 1 ≤ X.heap.size) := Lib.hid fun V W X h1 h2 h3 => ⟨h1.trans (h3.mono h2), by have := h3.size; omega⟩
  have hsz : (w.alloc (.cells #[.slice A x.sp.length c, I al, I ah] 26)).heap.size = w.heap.size + 1 := by simp
  go_enter Try.func8, Try.ntmps8
  go_wp2_with (fail)
  refine (H9.out _ (HFI.out _ HW.out).1).mono ?_
  rintro e w1 ⟨b, rfl, hB1⟩
  have hb1 : Below (w.heap.size + 1) (w.alloc (.cells #[.slice A x.sp.length c, I al, I ah] 26)) w1 := hB1.mono (by omega)
  have hz1 : w.heap.size + 1 ≤ w1.heap.size := by have := hB1.size; omega
  obtain ⟨q0, q1, q2, hBw1⟩ := HCP.out w1 hb1
  clear hB1
  cases b
  · rcases Nat.eq_zero_or_pos ys.length with hy0 | hy0
    · go_wp2_with (first
        | (go_at_call 10; refine (H10.out _).mono ?_; rintro e w2 ⟨rfl, hB2⟩)
        | fail)
      refine bodyPost_ret (v := .bool true) (by simp [results, Try.results8, go_sem]) rfl ⟨rfl, hBw1.trans (hB2.mono hBw1.size)⟩
    · go_wp2_with (first
        | (go_at_call 18; refine (H18.out _ (HFI.out _ hBw1).1).mono ?_; rintro e w2 ⟨Bl, dl, rfl, hB2⟩; obtain ⟨hb2, hz2⟩ := HST.out _ _ _ hb1 hz1 hB2; obtain ⟨c20, c21, c22, hBw2⟩ := HCP.out w2 hb2)
        | (go_at_call 17; refine (H17.out _ (HFI.out _ hBw2).1).mono ?_; rintro e w3 ⟨rfl, hB3⟩; obtain ⟨hb3, hz3⟩ := HST.out _ _ _ hb2 hz2 hB3; obtain ⟨c30, c31, c32, hBw3⟩ := HCP.out w3 hb3)
        | (go_at_call 10; refine (H10.out _).mono ?_; rintro e w4 ⟨rfl, hB4⟩; obtain ⟨hb4, hz4⟩ := HST.out _ _ _ hb3 hz3 hB4; obtain ⟨c40, c41, c42, hBw4⟩ := HCP.out w4 hb4)
        | fail)
      refine bodyPost_ret (v := .bool true) (by simp [results, Try.results8, go_sem]) rfl ⟨rfl, hBw4⟩
  · go_wp2_with (first
      | (go_at_call 10; refine (H10.out _).mono ?_; rintro e w2 ⟨rfl, hB2⟩)
      | fail)
    refine bodyPost_ret (v := .bool true) (by simp [results, Try.results8, go_sem]) rfl ⟨rfl, hBw1.trans (hB2.mono hBw1.size)⟩
set_option maxRecDepth 100000 in
set_option maxHeartbeats 8000000 in
theorem least_none (x : Prk) (A B : Option Addr) (c d : Nat) (ys : List Int) (w : World) (hA : Fours w w.heap.size A x.sp) (hx : Prk64 x) (hy : BytesW w w.heap.size B ys) (hyl : ys.length ≤ 9223372036854775807) (hyb : ∀ y ∈ ys, 0 ≤ y ∧ y ≤ 255) (hp : prkB x = true) (hf : fewR x = ([], 12)) (hl : ∀ o, OthI x o → o.sum ≤ 12 → (lackR x o).2.2 = 0) :
    Calls Try.prog 8 #[x.val A c, .slice B ys.length d] w fun e w' => e = .returned (.bool true) ∧ Below w.heap.size w w' := by
  have HFI : Hid (∀ W, Below w.heap.size w W → Fours W W.heap.size A x.sp ∧ BytesW W W.heap.size B ys) := Lib.hid fun W hW => ⟨(hA.below hW).more hW.size, (hy.below hW).more hW.size⟩
  have hxl := hx.len
  have H9 : Hid (∀ W : World, Fours W W.heap.size A x.sp → Calls Try.prog 9 #[.agg #[.slice A x.sp.length c, I x.alo, I x.ahi]] W fun e w' => ∃ b : Bool, e = .returned (.bool b) ∧ Below W.heap.size W w') := Lib.hid fun W h => busy9 x A c W h hx
  have H10 : Hid (∀ W : World, Calls Try.prog 10 #[] W fun e w' => e = .returned (.bool true) ∧ Below W.heap.size W w') := Lib.hid awake10
  have HYB := Lib.hid hyb
  have H18 : Hid (∀ W : World, Fours W W.heap.size A x.sp → Calls Try.prog 18 #[.agg #[.slice A x.sp.length c, I x.alo, I x.ahi]] W fun e w' => ∃ (B : Option Addr) (d : Nat), e = .returned (.tuple #[.slice B 0 d, I 12]) ∧ Below W.heap.size W w') := Lib.hid fun W h => by
    have := fewest18 x A c W h hxl
    rw [hf] at this
    exact this.mono fun e w' ⟨B, d, h1, _, h2⟩ => ⟨B, d, h1, h2⟩
  have H15 : Hid (∀ (W : World) (D : Option Addr) (g : Nat) (o : List Int), Fours W W.heap.size A x.sp → Ints W W.heap.size D o → OthI x o → o.sum ≤ 12 → Calls Try.prog 15 #[.agg #[.slice A x.sp.length c, I x.alo, I x.ahi], .slice D x.sp.length g] W fun e w' => ∃ a b : Int, e = .returned (.tuple #[I a, I b, I 0]) ∧ Below W.heap.size W w') := Lib.hid fun W D g o h h1 h2 h3 => by
    have e : o.length = x.sp.length := h2.len
    have := lacking15 x A D c g o W h h1 hxl (by omega)
    rw [hl o h2 h3, e] at this
    exact this.mono fun e w' ⟨h1, h2⟩ => ⟨_, _, h1, h2⟩
  obtain ⟨i0, hi0, hi1, hi2, hi3⟩ := info_parts info3
  have hu : Try.prog.underlying 27 = some (.slice 3) := Try.underlying27
  have HU := Lib.hid hu; have HI0 := Lib.hid hi0; have HI1 := Lib.hid hi1; have HI2 := Lib.hid hi2; have HI3 := Lib.hid hi3
  clear hu hi0 hi1 hi2 hi3
  have hn6 : x.sp.length ≤ 6 := (prkB_iff.1 hp).n6
  have H17 : Hid (∀ W : World, Fours W W.heap.size A x.sp → Calls Try.prog 17 #[.agg #[.slice A x.sp.length c, I x.alo, I x.ahi]] W fun e w' => e = .returned (.bool true) ∧ Below W.heap.size W w') := Lib.hid fun W h => by
    have := park17 x A c W h hxl
    rwa [hp] at this
  clear hp hf hl
  clear hA hx hy hyb
  simp only [Prk.val]
  generalize x.alo = al at *
  generalize x.ahi = ah at *
  have HW : Hid (Below w.heap.size w (w.alloc (.cells #[.slice A x.sp.length c, I al, I ah] 26))) := Lib.hid (below1 _ _)
  have HCP : Hid (∀ W, Below (w.heap.size + 1) (w.alloc (.cells #[.slice A x.sp.length c, I al, I ah] 26)) W → W.cell? ⟨w.heap.size, 0, none⟩ = some (.slice A x.sp.length c) ∧ W.cell? ⟨w.heap.size, 1, none⟩ = some (I al) ∧ W.cell? ⟨w.heap.size, 2, none⟩ = some (I ah) ∧ Below w.heap.size w W) := Lib.hid fun W hW =>
    ⟨(hW.cell (p := ⟨_, _, none⟩) (by simp)).trans (by simp [go_sem]), (hW.cell (p := ⟨_, _, none⟩) (by simp)).trans (by simp [go_sem]), (hW.cell (p := ⟨_, _, none⟩) (by simp)).trans (by simp [go_sem]), (below1 w _).trans (hW.mono (by omega))⟩
  have HST : Hid (∀ V W X : World, Below (w.heap.size + 1) V W → w.heap.size + 1 ≤ W.heap.size → Below W.heap.size W X → Below (w.heap.size + 1) V X ∧ w.heap.size + 1 ≤ X.heap.size) := Lib.hid fun V W X h1 h2 h3 => ⟨h1.trans (h3.mono h2), by have := h3.size; omega⟩
  have hsz : (w.alloc (.cells #[.slice A x.sp.length c, I al, I ah] 26)).heap.size = w.heap.size + 1 := by simp
  go_enter Try.func8, Try.ntmps8
  go_wp2_with (fail)
  refine (H9.out _ (HFI.out _ HW.out).1).mono ?_
  rintro e w1 ⟨b, rfl, hB1⟩
  have hb1 : Below (w.heap.size + 1) (w.alloc (.cells #[.slice A x.sp.length c, I al, I ah] 26)) w1 := hB1.mono (by omega)
  have hz1 : w.heap.size + 1 ≤ w1.heap.size := by have := hB1.size; omega
  obtain ⟨q0, q1, q2, hBw1⟩ := HCP.out w1 hb1
  clear hB1
  cases b
  · rcases Nat.eq_zero_or_pos ys.length with hy0 | hy0
    · go_wp2_with (first
        | (go_at_call 10; refine (H10.out _).mono ?_; rintro e w2 ⟨rfl, hB2⟩)
        | fail)
      refine bodyPost_ret (v := .bool true) (by simp [results, Try.results8, go_sem]) rfl ⟨rfl, hBw1.trans (hB2.mono hBw1.size)⟩
    · go_wp2_with (first
        | (go_at_call 18; refine (H18.out _ (HFI.out _ hBw1).1).mono ?_; rintro e w2 ⟨Bl, dl, rfl, hB2⟩; obtain ⟨hb2, hz2⟩ := HST.out _ _ _ hb1 hz1 hB2; obtain ⟨c20, c21, c22, hBw2⟩ := HCP.out w2 hb2)
        | (go_at_call 17; refine (H17.out _ (HFI.out _ hBw2).1).mono ?_; rintro e w3 ⟨rfl, hB3⟩; obtain ⟨hb3, hz3⟩ := HST.out _ _ _ hb2 hz2 hB3; obtain ⟨c30, c31, c32, hBw3⟩ := HCP.out w3 hb3)
        | fail)
      go_loopw [7, 8, 9] (fun s7 s8 s9 wr => ∃ (k : Nat) (v7 : Value) (s : Int) (o : List Int), k ≤ x.sp.length ∧ s9 = I k ∧ s8 = I s ∧ v7 = s7 ∧ (0 ≤ s ∧ s ≤ 12) ∧ Below w3.heap.size w3 wr ∧ Hid (OthK k s o) ∧ Hid (wr.ownsRow w3.heap.size 3 1 v7 k (o.map I))) (fun _ _ s _ => x.sp.length - (intOf s).toNat)
      case atStart => exact ⟨0, _, 0, [], by omega, rfl, rfl, rfl, by omega, (by first | exact Below.refl _ _ | exact below_drewN (Below.refl _ _) _), Lib.hid ⟨rfl, rfl, fun j h => absurd h (by simp)⟩, Lib.hid (by first | exact World.ownsRow_nil w3 w3.heap.size 3 1 | exact World.ownsRow_nil _ w3.heap.size 3 1)⟩
      case round =>
        obtain ⟨k, v7, s, o, hk, rfl, rfl, rfl, hs, hB, HK, HO⟩ := hrel
        have hzr := hB.size
        obtain ⟨m0, m1, m2, hBw⟩ := HCP.out _ (hb3.trans (hB.mono hz3))
        by_cases hlt : k < x.sp.length
        · obtain ⟨j, hj⟩ : ∃ j : Nat, (k : Int) % (ys.length : Int) = (j : Int) := ⟨((k : Int) % (ys.length : Int)).toNat, by have := Int.emod_nonneg (k : Int) (show (ys.length : Int) ≠ 0 by omega); omega⟩
          have hjl : j < ys.length := by have := Int.emod_lt_of_pos (k : Int) (show (0 : Int) < (ys.length : Int) by omega); omega
          obtain ⟨yb, yo, hye, hyz, hyc⟩ := (HFI.out _ hBw).2 hy0
          subst hye
          have hyj := hyc j hjl
          have hyr := HYB.out ys[j] (List.getElem_mem hjl)
          generalize ys[j] = yv at *
          obtain ⟨y, hyy⟩ : ∃ y, yv % 5 = y := ⟨_, rfl⟩
          have hy1 : 0 ≤ y ∧ y ≤ 4 := by omega
          have p0 : (0 : Int) ≤ (k : Int) := by omega
          have p1 : (k : Int) < (x.sp.length : Int) := by omega
          have p2 : (0 : Int) ≤ (j : Int) := by omega
          have p3 : (j : Int) < (ys.length : Int) := by omega
          have p4 : (0 : Int) < (ys.length : Int) := by omega
          have hm1 : 0 ≤ min (12 - s) y ∧ min (12 - s) y ≤ 4 ∧ s + min (12 - s) y ≤ 12 := by omega
          have HN : Hid ((o ++ [min (12 - s) y]).map I = o.map I ++ [I (min (12 - s) y)]) := Lib.hid (by simp)
          have HK2 : Hid (OthK (k + 1) (s + min (12 - s) y) (o ++ [min (12 - s) y])) := Lib.hid (HK.out.step hm1.1 (by omega))
          have HOL : Hid (o.length = k) := Lib.hid HK.out.1
          have hB2 : Below w3.heap.size w3 (wr.alloc (.cells #[I (min (12 - s) y)] 3)) := hB.alloc (by omega) _
          have HO2 := Lib.hid (HO.out.alloc (.cells #[I (min (12 - s) y)] 3))
          have HC2 := Lib.hid (cell_one3 wr (I (min (12 - s) y)) 3)
          clear hyc
          go_wp2_with (first
            | (at_builtin; refine wpList_append_own _ rfl _ _ 27 rfl w3.heap.size 3 i0 (.int .i64 0) 1 8 HU.out HI0.out HI1.out HI2.out HI3.out rfl (by decide) _ _ _ rfl HO2.out ⟨wr.heap.size, 0, none⟩ 1 1 [I (min (12 - s) y)] rfl rfl HC2.out (by simp [Value.oneCell']) (by unfold maxLen; omega) (by omega) (by simp; omega) ?_; intro v' w9 hown' hgrow _; have HO1 : Hid (w9.ownsRow w3.heap.size 3 1 v' (k + 1) ((o ++ [min (12 - s) y]).map I)) := Lib.hid (by rw [HN.out]; exact hown'); have hB3 : Below w3.heap.size w3 w9 := hB2.grown hgrow (by have := hB2.size; omega) (fun g e => (HO.out.lt g e).1); clear hown' hgrow; (obtain ⟨g, cap, hg, hgb, hgz, hgc, hgm⟩ : ∃ g cap, v' = .slice (some ⟨g, 0, none⟩) (k + 1) cap ∧ w3.heap.size ≤ g ∧ g < w9.heap.size ∧ k + 1 ≤ cap ∧ cap ≤ 9223372036854775807 := (by rcases own_form HO1.out with ⟨_, h⟩ | h; exact absurd h (by omega); exact h)); subst hg; have r0 : w9.cell? ⟨g, k, none⟩ = some (I (min (12 - s) y)) := (by rw [HO1.out.cellAt k (by omega), HN.out, List.getElem?_append_right (by simp [HOL.out])]; simp [HOL.out]))
            | fail)
          go_roundw
          case rel => exact ⟨k + 1, _, s + min (12 - s) y, _, by omega, by go_num, by first | rfl | go_num, rfl, by omega, hB3, HK2, HO1⟩
          case measure => first | (simp [intOf]; done) | (simp [intOf]; omega)
        · obtain rfl : k = x.sp.length := by omega
          obtain ⟨gA, gc, rfl⟩ : ∃ gA gc, v7 = .slice gA x.sp.length gc := by
            rcases own_form HO.out with ⟨h1, h2⟩ | ⟨g, cap, h1, _⟩
            · exact ⟨none, 0, by rw [h1, h2]⟩
            · exact ⟨_, _, h1⟩
          have HIO : Hid (Ints wr wr.heap.size gA o) := Lib.hid (ints_of_own HO.out HK.out.1.symm)
          have HOT : Hid (OthI x o) := Lib.hid ⟨HK.out.1, HK.out.2.2⟩
          have HSO : Hid (o.sum = s) := Lib.hid HK.out.2.1
          clear HO HK
          obtain ⟨hb4, hz4⟩ : Below (w.heap.size + 1) (w.alloc (.cells #[.slice A x.sp.length c, I al, I ah] 26)) wr ∧ w.heap.size + 1 ≤ wr.heap.size := ⟨hb3.trans (hB.mono hz3), by omega⟩
          have hBw4 := hBw
          have HB34 := Lib.hid hB
          clear hB hBw
          generalize wr = w4 at *
          go_wp2_with (first
            | (go_at_call 15; refine (H15.out _ _ _ _ (HFI.out _ hBw4).1 HIO.out HOT.out (by rw [HSO.out]; omega)).mono ?_; rintro e w5 ⟨la, lb, rfl, hB5⟩; obtain ⟨hb5, hz5⟩ := HST.out _ _ _ hb4 hz4 hB5; obtain ⟨c50, c51, c52, hBw5⟩ := HCP.out w5 hb5)
            | (go_at_call 10; refine (H10.out _).mono ?_; rintro e w6 ⟨rfl, hB6⟩; obtain ⟨hb6, hz6⟩ := HST.out _ _ _ hb5 hz5 hB6; obtain ⟨c60, c61, c62, hBw6⟩ := HCP.out w6 hb6)
            | fail)
          refine bodyPost_ret (v := .bool true) (by simp [results, Try.results8, go_sem]) rfl ⟨rfl, hBw6⟩
  · go_wp2_with (first
      | (go_at_call 10; refine (H10.out _).mono ?_; rintro e w2 ⟨rfl, hB2⟩)
      | fail)
    refine bodyPost_ret (v := .bool true) (by simp [results, Try.results8, go_sem]) rfl ⟨rfl, hBw1.trans (hB2.mono hBw1.size)⟩
set_option maxRecDepth 100000 in
set_option maxHeartbeats 8000000 in
theorem least_some (x : Prk) (A B : Option Addr) (c d : Nat) (ys : List Int) (w : World) (hA : Fours w w.heap.size A x.sp) (hx : Prk64 x) (hy : BytesW w w.heap.size B ys) (hyl : ys.length ≤ 9223372036854775807) (hyb : ∀ y ∈ ys, 0 ≤ y ∧ y ≤ 255) (hp : prkB x = true) (l : List Int) (hf : fewR x = (l, 0)) (hln : l.length = x.sp.length) (hsl : ∀ k, k ≤ l.length → 0 ≤ sumN (crF l) k ∧ sumN (crF l) k ≤ 12) (hg : (lackR x l).2.2 = 4) (hl : ∀ o, OthI x o → LeastI x l o (lackR x o).2.2) :
    Calls Try.prog 8 #[x.val A c, .slice B ys.length d] w fun e w' => e = .returned (.bool true) ∧ Below w.heap.size w w' := by
  have HFI : Hid (∀ W, Below w.heap.size w W → Fours W W.heap.size A x.sp ∧ BytesW W W.heap.size B ys) := Lib.hid fun W hW => ⟨(hA.below hW).more hW.size, (hy.below hW).more hW.size⟩
  have hxl := hx.len
  have H9 : Hid (∀ W : World, Fours W W.heap.size A x.sp → Calls Try.prog 9 #[.agg #[.slice A x.sp.length c, I x.alo, I x.ahi]] W fun e w' => ∃ b : Bool, e = .returned (.bool b) ∧ Below W.heap.size W w') := Lib.hid fun W h => busy9 x A c W h hx
  have H10 : Hid (∀ W : World, Calls Try.prog 10 #[] W fun e w' => e = .returned (.bool true) ∧ Below W.heap.size W w') := Lib.hid awake10
  have HYB := Lib.hid hyb
  have H18 : Hid (∀ W : World, Fours W W.heap.size A x.sp → Calls Try.prog 18 #[.agg #[.slice A x.sp.length c, I x.alo, I x.ahi]] W fun e w' => ∃ (B : Option Addr) (d : Nat), e = .returned (.tuple #[.slice B x.sp.length d, I 0]) ∧ Ints w' w'.heap.size B l ∧ Below W.heap.size W w') := Lib.hid fun W h => by
    have := fewest18 x A c W h hxl
    rw [hf] at this
    simp only [hln] at this
    exact this
  have H15 : Hid (∀ (W : World) (D : Option Addr) (g : Nat) (o : List Int), Fours W W.heap.size A x.sp → Ints W W.heap.size D o → OthI x o → Calls Try.prog 15 #[.agg #[.slice A x.sp.length c, I x.alo, I x.ahi], .slice D x.sp.length g] W fun e w' => ∃ a b f : Int, e = .returned (.tuple #[I a, I b, I f]) ∧ Hid (LeastI x l o f) ∧ Below W.heap.size W w') := Lib.hid fun W D g o h h1 h2 => by
    have e : o.length = x.sp.length := h2.len
    have := lacking15 x A D c g o W h h1 hxl (by rw [e]; exact hxl)
    rw [e] at this
    exact this.mono fun e w' ⟨h3, h4⟩ => ⟨_, _, _, h3, Lib.hid (hl o h2), h4⟩
  have H15L : Hid (∀ (W : World) (D : Option Addr) (g : Nat), Fours W W.heap.size A x.sp → Ints W W.heap.size D l → Calls Try.prog 15 #[.agg #[.slice A x.sp.length c, I x.alo, I x.ahi], .slice D x.sp.length g] W fun e w' => ∃ a b : Int, e = .returned (.tuple #[I a, I b, I 4]) ∧ Below W.heap.size W w') := Lib.hid fun W D g h h1 => by
    have := lacking15 x A D c g l W h h1 hxl (by rw [hln]; exact hxl)
    rw [hg, hln] at this
    exact this.mono fun e w' ⟨h1, h2⟩ => ⟨_, _, h1, h2⟩
  have HLN := Lib.hid hln
  have HSL : Hid (∀ k, k ≤ x.sp.length → 0 ≤ sumN (crF l) k ∧ sumN (crF l) k ≤ 12) := Lib.hid fun k hk => hsl k (by rw [hln]; exact hk)
  obtain ⟨i0, hi0, hi1, hi2, hi3⟩ := info_parts info3
  have hu : Try.prog.underlying 27 = some (.slice 3) := Try.underlying27
  have HU := Lib.hid hu; have HI0 := Lib.hid hi0; have HI1 := Lib.hid hi1; have HI2 := Lib.hid hi2; have HI3 := Lib.hid hi3
  clear hu hi0 hi1 hi2 hi3
  have hn6 : x.sp.length ≤ 6 := (prkB_iff.1 hp).n6
  have H17 : Hid (∀ W : World, Fours W W.heap.size A x.sp → Calls Try.prog 17 #[.agg #[.slice A x.sp.length c, I x.alo, I x.ahi]] W fun e w' => e = .returned (.bool true) ∧ Below W.heap.size W w') := Lib.hid fun W h => by
    have := park17 x A c W h hxl
    rwa [hp] at this
  clear hp hf hl hg hln hsl
  clear hA hx hy hyb
  simp only [Prk.val]
  generalize x.alo = al at *
  generalize x.ahi = ah at *
  have HW : Hid (Below w.heap.size w (w.alloc (.cells #[.slice A x.sp.length c, I al, I ah] 26))) := Lib.hid (below1 _ _)
  have HCP : Hid (∀ W, Below (w.heap.size + 1) (w.alloc (.cells #[.slice A x.sp.length c, I al, I ah] 26)) W → W.cell? ⟨w.heap.size, 0, none⟩ = some (.slice A x.sp.length c) ∧ W.cell? ⟨w.heap.size, 1, none⟩ = some (I al) ∧ W.cell? ⟨w.heap.size, 2, none⟩ = some (I ah) ∧ Below w.heap.size w W) := Lib.hid fun W hW =>
    ⟨(hW.cell (p := ⟨_, _, none⟩) (by simp)).trans (by simp [go_sem]), (hW.cell (p := ⟨_, _, none⟩) (by simp)).trans (by simp [go_sem]), (hW.cell (p := ⟨_, _, none⟩) (by simp)).trans (by simp [go_sem]), (below1 w _).trans (hW.mono (by omega))⟩
  have HST : Hid (∀ V W X : World, Below (w.heap.size + 1) V W → w.heap.size + 1 ≤ W.heap.size → Below W.heap.size W X → Below (w.heap.size + 1) V X ∧ w.heap.size + 1 ≤ X.heap.size) := Lib.hid fun V W X h1 h2 h3 => ⟨h1.trans (h3.mono h2), by have := h3.size; omega⟩
  have hsz : (w.alloc (.cells #[.slice A x.sp.length c, I al, I ah] 26)).heap.size = w.heap.size + 1 := by simp
  go_enter Try.func8, Try.ntmps8
  go_wp2_with (fail)
  refine (H9.out _ (HFI.out _ HW.out).1).mono ?_
  rintro e w1 ⟨b, rfl, hB1⟩
  have hb1 : Below (w.heap.size + 1) (w.alloc (.cells #[.slice A x.sp.length c, I al, I ah] 26)) w1 := hB1.mono (by omega)
  have hz1 : w.heap.size + 1 ≤ w1.heap.size := by have := hB1.size; omega
  obtain ⟨q0, q1, q2, hBw1⟩ := HCP.out w1 hb1
  clear hB1
  cases b
  · rcases Nat.eq_zero_or_pos ys.length with hy0 | hy0
    · go_wp2_with (first
        | (go_at_call 10; refine (H10.out _).mono ?_; rintro e w2 ⟨rfl, hB2⟩)
        | fail)
      refine bodyPost_ret (v := .bool true) (by simp [results, Try.results8, go_sem]) rfl ⟨rfl, hBw1.trans (hB2.mono hBw1.size)⟩
    · go_wp2_with (first
        | (go_at_call 18; refine (H18.out _ (HFI.out _ hBw1).1).mono ?_; rintro e w2 ⟨Bl, dl, rfl, hI2, hB2⟩; obtain ⟨hb2, hz2⟩ := HST.out _ _ _ hb1 hz1 hB2; obtain ⟨c20, c21, c22, hBw2⟩ := HCP.out w2 hb2; have HL2 := Lib.hid hI2; clear hI2)
        | (go_at_call 17; refine (H17.out _ (HFI.out _ hBw2).1).mono ?_; rintro e w3 ⟨rfl, hB3⟩; obtain ⟨hb3, hz3⟩ := HST.out _ _ _ hb2 hz2 hB3; obtain ⟨c30, c31, c32, hBw3⟩ := HCP.out w3 hb3)
        | fail)
      go_loopw [7, 8, 9] (fun s7 s8 s9 wr => ∃ (k : Nat) (v7 : Value) (s : Int) (o : List Int), k ≤ x.sp.length ∧ s9 = I k ∧ s8 = I s ∧ v7 = s7 ∧ (0 ≤ s ∧ s ≤ 12) ∧ Below w3.heap.size w3 wr ∧ Hid (OthK k s o) ∧ Hid (wr.ownsRow w3.heap.size 3 1 v7 k (o.map I))) (fun _ _ s _ => x.sp.length - (intOf s).toNat)
      case atStart => exact ⟨0, _, 0, [], by omega, rfl, rfl, rfl, by omega, (by first | exact Below.refl _ _ | exact below_drewN (Below.refl _ _) _), Lib.hid ⟨rfl, rfl, fun j h => absurd h (by simp)⟩, Lib.hid (by first | exact World.ownsRow_nil w3 w3.heap.size 3 1 | exact World.ownsRow_nil _ w3.heap.size 3 1)⟩
      case round =>
        obtain ⟨k, v7, s, o, hk, rfl, rfl, rfl, hs, hB, HK, HO⟩ := hrel
        have hzr := hB.size
        obtain ⟨m0, m1, m2, hBw⟩ := HCP.out _ (hb3.trans (hB.mono hz3))
        by_cases hlt : k < x.sp.length
        · obtain ⟨j, hj⟩ : ∃ j : Nat, (k : Int) % (ys.length : Int) = (j : Int) := ⟨((k : Int) % (ys.length : Int)).toNat, by have := Int.emod_nonneg (k : Int) (show (ys.length : Int) ≠ 0 by omega); omega⟩
          have hjl : j < ys.length := by have := Int.emod_lt_of_pos (k : Int) (show (0 : Int) < (ys.length : Int) by omega); omega
          obtain ⟨yb, yo, hye, hyz, hyc⟩ := (HFI.out _ hBw).2 hy0
          subst hye
          have hyj := hyc j hjl
          have hyr := HYB.out ys[j] (List.getElem_mem hjl)
          generalize ys[j] = yv at *
          obtain ⟨y, hyy⟩ : ∃ y, yv % 5 = y := ⟨_, rfl⟩
          have hy1 : 0 ≤ y ∧ y ≤ 4 := by omega
          have p0 : (0 : Int) ≤ (k : Int) := by omega
          have p1 : (k : Int) < (x.sp.length : Int) := by omega
          have p2 : (0 : Int) ≤ (j : Int) := by omega
          have p3 : (j : Int) < (ys.length : Int) := by omega
          have p4 : (0 : Int) < (ys.length : Int) := by omega
          have hm1 : 0 ≤ min (12 - s) y ∧ min (12 - s) y ≤ 4 ∧ s + min (12 - s) y ≤ 12 := by omega
          have HN : Hid ((o ++ [min (12 - s) y]).map I = o.map I ++ [I (min (12 - s) y)]) := Lib.hid (by simp)
          have HK2 : Hid (OthK (k + 1) (s + min (12 - s) y) (o ++ [min (12 - s) y])) := Lib.hid (HK.out.step hm1.1 (by omega))
          have HOL : Hid (o.length = k) := Lib.hid HK.out.1
          have hB2 : Below w3.heap.size w3 (wr.alloc (.cells #[I (min (12 - s) y)] 3)) := hB.alloc (by omega) _
          have HO2 := Lib.hid (HO.out.alloc (.cells #[I (min (12 - s) y)] 3))
          have HC2 := Lib.hid (cell_one3 wr (I (min (12 - s) y)) 3)
          clear hyc
          go_wp2_with (first
            | (at_builtin; refine wpList_append_own _ rfl _ _ 27 rfl w3.heap.size 3 i0 (.int .i64 0) 1 8 HU.out HI0.out HI1.out HI2.out HI3.out rfl (by decide) _ _ _ rfl HO2.out ⟨wr.heap.size, 0, none⟩ 1 1 [I (min (12 - s) y)] rfl rfl HC2.out (by simp [Value.oneCell']) (by unfold maxLen; omega) (by omega) (by simp; omega) ?_; intro v' w9 hown' hgrow _; have HO1 : Hid (w9.ownsRow w3.heap.size 3 1 v' (k + 1) ((o ++ [min (12 - s) y]).map I)) := Lib.hid (by rw [HN.out]; exact hown'); have hB3 : Below w3.heap.size w3 w9 := hB2.grown hgrow (by have := hB2.size; omega) (fun g e => (HO.out.lt g e).1); clear hown' hgrow; (obtain ⟨g, cap, hg, hgb, hgz, hgc, hgm⟩ : ∃ g cap, v' = .slice (some ⟨g, 0, none⟩) (k + 1) cap ∧ w3.heap.size ≤ g ∧ g < w9.heap.size ∧ k + 1 ≤ cap ∧ cap ≤ 9223372036854775807 := (by rcases own_form HO1.out with ⟨_, h⟩ | h; exact absurd h (by omega); exact h)); subst hg; have r0 : w9.cell? ⟨g, k, none⟩ = some (I (min (12 - s) y)) := (by rw [HO1.out.cellAt k (by omega), HN.out, List.getElem?_append_right (by simp [HOL.out])]; simp [HOL.out]))
            | fail)
          go_roundw
          case rel => exact ⟨k + 1, _, s + min (12 - s) y, _, by omega, by go_num, by first | rfl | go_num, rfl, by omega, hB3, HK2, HO1⟩
          case measure => first | (simp [intOf]; done) | (simp [intOf]; omega)
        · obtain rfl : k = x.sp.length := by omega
          obtain ⟨gA, gc, rfl⟩ : ∃ gA gc, v7 = .slice gA x.sp.length gc := by
            rcases own_form HO.out with ⟨h1, h2⟩ | ⟨g, cap, h1, _⟩
            · exact ⟨none, 0, by rw [h1, h2]⟩
            · exact ⟨_, _, h1⟩
          have HIO : Hid (Ints wr wr.heap.size gA o) := Lib.hid (ints_of_own HO.out HK.out.1.symm)
          have HOT : Hid (OthI x o) := Lib.hid ⟨HK.out.1, HK.out.2.2⟩
          have HSO : Hid (o.sum = s) := Lib.hid HK.out.2.1
          clear HO HK
          obtain ⟨hb4, hz4⟩ : Below (w.heap.size + 1) (w.alloc (.cells #[.slice A x.sp.length c, I al, I ah] 26)) wr ∧ w.heap.size + 1 ≤ wr.heap.size := ⟨hb3.trans (hB.mono hz3), by omega⟩
          have hBw4 := hBw
          have HB34 := Lib.hid hB
          clear hB hBw
          generalize wr = w4 at *
          have HI4 : Hid (∀ W, Below w4.heap.size w4 W → Ints W W.heap.size Bl l ∧ Ints W W.heap.size gA o) := Lib.hid fun W h => ⟨((((((HL2.out.below hB3).more hB3.size).below HB34.out).more HB34.out.size).below h).more h.size), (HIO.out.below h).more h.size⟩
          go_wp2_with (first
            | (go_at_call 15; refine (H15.out _ _ _ _ (HFI.out _ hBw4).1 HIO.out HOT.out).mono ?_; rintro e w5 ⟨la, lb, f, rfl, HLI, hB5⟩; obtain ⟨hb5, hz5⟩ := HST.out _ _ _ hb4 hz4 hB5; obtain ⟨c50, c51, c52, hBw5⟩ := HCP.out w5 hb5)
            | fail)
          have HI5 : Hid (∀ W, Below w5.heap.size w5 W → Ints W W.heap.size Bl l ∧ Ints W W.heap.size gA o) := Lib.hid fun W h => HI4.out W (hB5.trans (h.mono hB5.size))
          go_loop [13, 14] (fun s13 s14 => ∃ k : Nat, k ≤ x.sp.length ∧ s14 = I k ∧ s13 = I (sumN (crF l) k)) (fun _ s => x.sp.length - (intOf s).toNat)
          case atStart => exact ⟨0, by omega, rfl, rfl⟩
          case round =>
            obtain ⟨k, hk, rfl, rfl⟩ := hrel
            have hs0 := HSL.out k hk
            by_cases hlt : k < x.sp.length
            · obtain ⟨lb, lo, hLe, hlz, l0⟩ := ints_at (HI5.out _ (Below.refl _ _)).1 (k := k) (by rw [HLN.out]; exact hlt)
              subst hLe
              have hs1 := HSL.out (k + 1) (by omega)
              have HSK : Hid (sumN (crF l) (k + 1) = sumN (crF l) k + crF l k) := Lib.hid rfl
              rw [HSK.out] at hs1
              generalize sumN (crF l) k = t at *
              generalize crF l k = v at *
              have p0 : (0 : Int) ≤ (k : Int) := by omega
              have p1 : (k : Int) < (x.sp.length : Int) := by omega
              go_wp2
              go_round
              case rel => exact ⟨k + 1, by omega, by go_num, by rw [HSK.out]⟩
              case measure => first | (simp [intOf]; done) | (simp [intOf]; omega)
            · obtain rfl : k = x.sp.length := by omega
              obtain ⟨ns, hns⟩ : ∃ ns, sumN (crF l) x.sp.length = ns := ⟨_, rfl⟩
              have HKI := HLI.out.kind
              have HFE : Hid (f = 4 → ns ≤ s) := Lib.hid (by have := HLI.out.few; rw [HLN.out, hns, HSO.out] at this; exact this)
              have HLX : Hid (f = 4 → ns = s → ∀ k, k < x.sp.length → (∀ j, j < k → crF l j = crF o j) → crF l k ≠ crF o k → crF l k < crF o k) := Lib.hid (by have := HLI.out.lex; rw [HLN.out, hns, HSO.out] at this; exact this)
              have HON : Hid (o.length = x.sp.length) := Lib.hid HOT.out.len
              rw [hns] at hs0 ⊢
              clear hns HLI
              rcases HKI with rfl | rfl
              · go_wp2_with (first
                  | (go_at_call 15; refine (H15L.out _ _ _ (HFI.out _ hBw5).1 (HI5.out _ (Below.refl _ _)).1).mono ?_; rintro e w6 ⟨ma, mb, rfl, hB6⟩; obtain ⟨hb6, hz6⟩ := HST.out _ _ _ hb5 hz5 hB6; obtain ⟨c60, c61, c62, hBw6⟩ := HCP.out w6 hb6)
                  | fail)
                go_loop [18] (fun s18 => s18 = I 0) (fun _ => 0)
                case atStart => rfl
                case round =>
                  subst hrel
                  go_wp2_with (first
                    | (go_at_call 10; refine (H10.out _).mono ?_; rintro e w7 ⟨rfl, hB7⟩)
                    | fail)
                  all_goals (refine bodyPost_ret (v := .bool true) (by simp [results, Try.results8, go_sem]) rfl ⟨rfl, hBw6.trans (hB7.mono hBw6.size)⟩)
              · have hfe : ns ≤ s := HFE.out rfl
                by_cases hsn : ns = s
                · have HLEX : Hid (∀ k, k < x.sp.length → (∀ j, j < k → crF l j = crF o j) → crF l k ≠ crF o k → crF l k < crF o k) := Lib.hid (HLX.out rfl hsn)
                  clear HLX HFE
                  subst hsn
                  go_wp2_with (first
                    | (go_at_call 15; refine (H15L.out _ _ _ (HFI.out _ hBw5).1 (HI5.out _ (Below.refl _ _)).1).mono ?_; rintro e w6 ⟨ma, mb, rfl, hB6⟩; obtain ⟨hb6, hz6⟩ := HST.out _ _ _ hb5 hz5 hB6; obtain ⟨c60, c61, c62, hBw6⟩ := HCP.out w6 hb6)
                    | fail)
                  have HI6 : Hid (∀ W, Below w6.heap.size w6 W → Ints W W.heap.size Bl l ∧ Ints W W.heap.size gA o) := Lib.hid fun W h => HI5.out W (hB6.trans (h.mono hB6.size))
                  go_loopw [18] (fun s18 wr => ∃ k : Nat, k ≤ x.sp.length ∧ s18 = I k ∧ Below w6.heap.size w6 wr ∧ Hid (∀ j, j < k → crF l j = crF o j)) (fun s _ => x.sp.length - (intOf s).toNat)
                  case atStart => exact ⟨0, by omega, rfl, (by first | exact Below.refl _ _ | exact below_drewN (Below.refl _ _) _), Lib.hid fun j h => absurd h (by omega)⟩
                  case round =>
                    obtain ⟨k, hk, rfl, hB, HP⟩ := hrel
                    have hBr : Below w.heap.size w wr := hBw6.trans (hB.mono hBw6.size)
                    by_cases hlt : k < x.sp.length
                    · obtain ⟨lb, lo, hLe, hlz, l0⟩ := ints_at (HI6.out _ hB).1 (k := k) (by rw [HLN.out]; exact hlt)
                      obtain ⟨ob, oo, hOe, hoz, o0⟩ := ints_at (HI6.out _ hB).2 (k := k) (by rw [HON.out]; exact hlt)
                      subst hLe hOe
                      have HD : Hid (crF l k ≠ crF o k → crF l k < crF o k) := Lib.hid (HLEX.out k hlt HP.out)
                      have HPS : Hid (crF l k = crF o k → ∀ j, j < k + 1 → crF l j = crF o j) := Lib.hid fun e j hj => by
                        rcases Nat.lt_succ_iff_lt_or_eq.1 hj with h1 | rfl
                        · exact HP.out j h1
                        · exact e
                      generalize crF l k = v at *
                      generalize crF o k = u at *
                      have p0 : (0 : Int) ≤ (k : Int) := by omega
                      have p1 : (k : Int) < (x.sp.length : Int) := by omega
                      by_cases he : v = u
                      · have heb : (v != u) = false := by simpa using he
                        have HE := Lib.hid he
                        clear he
                        go_wp2_with (fail)
                        go_quiet (fail)
                        go_wp2
                        go_roundw
                        case rel => exact ⟨k + 1, by omega, by go_num, (by first | exact hB | exact below_drewN hB _), Lib.hid (HPS.out HE.out)⟩
                        case measure => first | (simp [intOf]; done) | (simp [intOf]; omega)
                      · have heb : (v != u) = true := by simpa using he
                        have hvu : v < u := HD.out he
                        have hvd : decide (v < u) = true := decide_eq_true hvu
                        clear he
                        go_wp2_with (fail)
                        go_quiet (fail)
                        go_wp2_with (fail)
                        have HCX : Hid (∀ W, Below wr.heap.size wr W → W.cell? ⟨lb, lo + k, none⟩ = some (I v) ∧ W.cell? ⟨ob, oo + k, none⟩ = some (I u)) := Lib.hid fun W hW => ⟨(hW.cell (p := ⟨_, _, none⟩) hlz).trans l0, (hW.cell (p := ⟨_, _, none⟩) hoz).trans o0⟩
                        refine (wpIn_wide (n := 9)).1 ?_
                        refine wpIn_region_valsB [some 167, some 168, some 169, some 170, some 171, some 172, some 173, some 174, some 175, some 176, some 177, some 178, some 4]
                          (nthV [.slice (some ⟨lb, lo, none⟩) x.sp.length dl, I k, .pointer (some ⟨lb, lo + k, none⟩), I v, .slice (some ⟨ob, oo, none⟩) x.sp.length gc, I k, .pointer (some ⟨ob, oo + k, none⟩), I u, .bool true, .bool true, .bool true, .bool true, .bool true])
                          [(5, .slice (some ⟨lb, lo, none⟩) x.sp.length dl), (18, I k), (7, .slice (some ⟨ob, oo, none⟩) x.sp.length gc)]
                          (fun W => Below wr.heap.size wr W) rfl (by kernel_rfl) (fun _ => trivial) (by kernel_rfl) (by kernel_rfl) (by kernel_rfl) ⟨rfl, rfl, rfl, trivial⟩ (fun _ d _ _ _ h => by cases d <;> exact h) (by first | exact (Below.refl _ _).drew | exact (below_drewN (Below.refl _ _) _).drew) ?_ ?_
                        · refine ⟨?_, ?_, ?_, ?_, ?_, ?_, ?_, ?_, ?_, ?_, ?_, ?_, ?_, trivial⟩
                          all_goals (intro x0 W hC; obtain ⟨n0, n1⟩ := HCX.out _ hC)
                          all_goals first
                            | (refine e_no rfl ?_; rfl)
                            | (refine e_yes rfl ?_; intro b e hb K hK)
                          all_goals first
                            | (refine opE_li rfl hb ?_; simp only [execOp, resolve, Oper.about, envB, lookB, lookV, nthV, List.map_toArray, List.map_cons, List.map_nil, Nat.reduceEqDiff, reduceIte, Nat.succ_ne_zero, Nat.zero_ne_one, Nat.one_ne_zero, Nat.reduceAdd, Nat.zero_add]; go_simp; exact hK _ hC)
                            | (refine opE_call rfl hb (fun _ => trivial) (fun h => (by cases h)) 10 #[] ?_ ?_
                               · (simp only [execOp, resolve, Oper.about, envB, lookB, lookV, nthV, List.map_toArray, List.map_cons, List.map_nil, Nat.reduceEqDiff, reduceIte, Nat.succ_ne_zero, Nat.zero_ne_one, Nat.one_ne_zero, Nat.reduceAdd, Nat.zero_add])
                                 go_simp
                               · refine callsIn_wide.2 ((H10.out _).mono ?_)
                                 rintro e w6 ⟨rfl, hB6⟩
                                 exact ⟨_, rfl, hK _ (hC.trans (hB6.mono hC.size))⟩)
                        · (intro W hC; have HC := Lib.hid hC; clear hC; simp only [putD, nthV, Act.put, List.setIfInBounds_toArray, List.set_cons_succ, List.set_cons_zero, Nat.zero_add, Nat.reduceAdd])
                          have hBx := HC.out
                          clear HC
                          go_wp2_with (fail)
                          refine bodyPost_ret (v := .bool true) (by simp [results, Try.results8, go_sem]) rfl ⟨rfl, hBr.trans (hBx.mono hBr.size)⟩
                    · obtain rfl : k = x.sp.length := by omega
                      go_wp2_with (first
                        | (go_at_call 10; refine (H10.out _).mono ?_; rintro e w7 ⟨rfl, hB7⟩)
                        | fail)
                      all_goals (refine bodyPost_ret (v := .bool true) (by simp [results, Try.results8, go_sem]) rfl ⟨rfl, hBr.trans (hB7.mono hBr.size)⟩)
                · have hne : (s == ns) = false := by simp; omega
                  go_wp2_with (first
                    | (go_at_call 15; refine (H15L.out _ _ _ (HFI.out _ hBw5).1 (HI5.out _ (Below.refl _ _)).1).mono ?_; rintro e w6 ⟨ma, mb, rfl, hB6⟩; obtain ⟨hb6, hz6⟩ := HST.out _ _ _ hb5 hz5 hB6; obtain ⟨c60, c61, c62, hBw6⟩ := HCP.out w6 hb6)
                    | fail)
                  go_loop [18] (fun s18 => s18 = I 0) (fun _ => 0)
                  case atStart => rfl
                  case round =>
                    subst hrel
                    go_wp2_with (first
                      | (go_at_call 10; refine (H10.out _).mono ?_; rintro e w7 ⟨rfl, hB7⟩)
                      | fail)
                    all_goals (refine bodyPost_ret (v := .bool true) (by simp [results, Try.results8, go_sem]) rfl ⟨rfl, hBw6.trans (hB7.mono hBw6.size)⟩)
  · go_wp2_with (first
      | (go_at_call 10; refine (H10.out _).mono ?_; rintro e w2 ⟨rfl, hB2⟩)
      | fail)
    refine bodyPost_ret (v := .bool true) (by simp [results, Try.results8, go_sem]) rfl ⟨rfl, hBw1.trans (hB2.mono hBw1.size)⟩
theorem least_any (x : Prk) (A B : Option Addr) (c d : Nat) (ys : List Int) (w : World) (hA : Fours w w.heap.size A x.sp) (hx : Prk64 x) (hy : BytesW w w.heap.size B ys) (hyl : ys.length ≤ 9223372036854775807) (hyb : ∀ y ∈ ys, 0 ≤ y ∧ y ≤ 255) :
    Calls Try.prog 8 #[x.val A c, .slice B ys.length d] w fun e w' => e = .returned (.bool true) ∧ Below w.heap.size w w' := by
  cases hp : prkB x
  · exact least_false x A B c d ys w hA hx hy hyl hyb hp
  · rcases few_law (prkB_iff.1 hp) with ⟨h1, h2⟩ | ⟨l, h1, h2, _, h3, h4, h5⟩
    · exact least_none x A B c d ys w hA hx hy hyl hyb hp h1 h2
    · exact least_some x A B c d ys w hA hx hy hyl hyb hp l h1 h2 h3 h4 h5
end Go.Proofs.Ytfebhofihioaoaa
