/- Need and Lacking, of the program; of the document, whole. -/
import Derived.Test.YtfebhofihioaoaaS21
import Derived.Test.YtfebhofihioaoaaS15
namespace Go.Proofs.Ytfebhofihioaoaa
set_option linter.unusedVariables false
set_option linter.unusedSimpArgs false
open Go Go.RowKit

theorem need12 (x : Prk) (A : Option Addr) (c : Nat) (s : Int) (w : World) (hA : Fours w w.heap.size A x.sp) (hxl : x.sp.length ≤ 9223372036854775807) :
    Calls Try.prog 12 #[x.val A c, I s] w fun e w' => e = .returned (.tuple #[I (needR x s).1, I (needR x s).2]) ∧ Below w.heap.size w w' := need12_of x A c s w hA hxl fun hx k W hk hW => need34 x A c k W hx hW hk
theorem lacking40 (x : Prk) (A B : Option Addr) (c d : Nat) (l : List Int) (w : World) (hx : PrkOk x) (hA : Fours w w.heap.size A x.sp) (hl : Ints w w.heap.size B l) (hlx : l.length = x.n) (hp : ∀ i, i < x.n → 0 ≤ crF l i ∧ crF l i ≤ 12) :
    Calls Try.prog 40 #[x.val A c, .slice B l.length d] w fun e w' =>
      e = .returned (.tuple #[I ((lackTo (needV x) (forX x (crF l)) (2 ^ x.n)).1 : Nat), I (lackTo (needV x) (forX x (crF l)) (2 ^ x.n)).2]) ∧ Below w.heap.size w w' := lacking40_of x A B c d l w hx hA hl hlx hp fun k W hk hW => need34 x A c k W hx hW hk
theorem lacking16 (x : Prk) (A B : Option Addr) (c d : Nat) (l : List Int) (w : World) (hA : Fours w w.heap.size A x.sp) (hl : Ints w w.heap.size B l) (hxl : x.sp.length ≤ 9223372036854775807) (hll : l.length ≤ 9223372036854775807) :
    Calls Try.prog 16 #[x.val A c, .slice B l.length d] w fun e w' => e = .returned (.tuple #[I (lackR x l).1, I (lackR x l).2.1, I (lackR x l).2.2]) ∧ Below w.heap.size w w' := lacking16_of x A B c d l w hA hl hxl hll fun hx k W hk hW => need34 x A c k W hx hW hk
theorem forX_congr {x : Prk} {p q : Nat → Int} (h : ∀ i, i < x.n → p i = q i) (S : Nat) : forX x p S = forX x q S := sumN_congr fun i hi => by rw [h i hi]
theorem lackTo_congr {n1 n2 h1 h2 : Nat → Int} : ∀ k : Nat, (∀ S, S < k → n1 S = n2 S ∧ h1 S = h2 S) → lackTo n1 h1 k = lackTo n2 h2 k
  | 0, _ => rfl
  | k + 1, h => by
    have ih := lackTo_congr k fun S hS => h S (by omega)
    obtain ⟨e1, e2⟩ := h k (by omega)
    simp only [lackTo, ih, e1, e2]
theorem crF_needs (x : Prk) {N S : Nat} (h : S < N) : crF (needsTo x N) S = needV x S := by simp [crF, needsTo, List.getD, h]
theorem readP_eq {x : Prk} {l : List Int} (h : postsB x l = true) {i : Nat} (hi : i < x.n) : readP x l i = crF l i := by
  unfold readP
  rw [if_pos h]
  have h1 := (postsB_iff.1 h).1
  unfold padP
  rw [if_pos (by omega)]
/-- What the program finds lacking. -/
theorem lackP_eq {x : Prk} {l : List Int} (h : postsB x l = true) : lackTo (crF (needsTo x (2 ^ x.n))) (forX x (readP x l)) (2 ^ x.n) = lackTo (needV x) (forX x (crF l)) (2 ^ x.n) :=
  lackTo_congr _ fun S hS => ⟨crF_needs x hS, forX_congr (fun i hi => readP_eq h hi) S⟩
theorem needsTo_get (x : Prk) {N k : Nat} (h : k < (needsTo x N).length) : (needsTo x N)[k] = needV x k := by simp [needsTo]
theorem needsTo_bd {x : Prk} (hx : PrkOk x) (N : Nat) : ∀ k (h : k < (needsTo x N).length), 0 ≤ (needsTo x N)[k] ∧ (needsTo x N)[k] ≤ 1073741824 := fun k h => by
  rw [needsTo_get]
  have := needV_bd hx k
  omega
theorem lacking39N (x : Prk) (P : Nat) (A B : Option Addr) (c d : Nat) (p : Nat → Int) (w : World) (hx : PrkOk x) (hP : ParkAt w P x A c (.slice B (2 ^ x.n) d)) (hR : Ints w w.heap.size B (needsTo x (2 ^ x.n))) (hp : ∀ i, i < x.n → 0 ≤ p i ∧ p i ≤ 12) :
    Calls Try.prog 39 #[.pointer (some ⟨P, 0, none⟩), .agg #[I (p 0), I (p 1), I (p 2), I (p 3), I (p 4), I (p 5)]] w fun e w' =>
      e = .returned (.tuple #[I ((lackTo (needV x) (forX x p) (2 ^ x.n)).1 : Nat), I (lackTo (needV x) (forX x p) (2 ^ x.n)).2]) ∧ Below w.heap.size w w' := by
  have h64 : (2 : Nat) ^ x.n ≤ 64 := by obtain ⟨N, h1, _, _, h4⟩ := pow_nat hx.n6; omega
  have h := lacking39 x P A B c d (needsTo x (2 ^ x.n)) p w hx (by rw [needsTo_len]; exact hP) hR hp (by rw [needsTo_len]; exact h64) (needsTo_bd hx _)
  rw [needsTo_len, lackTo_congr (n2 := needV x) (h2 := forX x p) _ (fun S hS => ⟨crF_needs x hS, rfl⟩)] at h
  exact h
set_option maxRecDepth 100000 in
set_option maxHeartbeats 1000000 in
theorem need11 (x : Prk) (A : Option Addr) (c : Nat) (s : Int) (w : World) (hA : Fours w w.heap.size A x.sp) (hxl : x.sp.length ≤ 9223372036854775807) :
    Calls Try.prog 11 #[x.val A c, I s] w fun e w' => e = .returned (.tuple #[I (needR x s).1, I (needR x s).2]) ∧ Below w.heap.size w w' := by
  have HA := Lib.hid hA
  have H29 : Hid (∀ W : World, Fours W W.heap.size A x.sp → Calls Try.prog 29 #[.agg #[.slice A x.sp.length c, I x.alo, I x.ahi]] W fun e w' => e = .returned (.bool (prkB x)) ∧ Below W.heap.size W w') := Lib.hid fun W h => isPark29 x A c W h hxl
  have HN0 : Hid (prkB x = false → needR x s = (0, 1)) := Lib.hid fun h => by simp [needR, h]
  have HN1 : Hid (prkB x = true → ∃ N : Nat, 1 ≤ N ∧ N ≤ 64 ∧ x.sp.length ≤ 6 ∧ (2 : Int) ^ x.sp.length = (N : Int) ∧ (inB s 0 ((N : Int) - 1) = false → needR x s = (0, 2)) ∧ (inB s 0 ((N : Int) - 1) = true → ∃ k : Nat, s = (k : Int) ∧ k < N ∧ needR x s = (needV x k, 0)) ∧
      (∀ W : World, Fours W W.heap.size A x.sp → Calls Try.prog 31 #[.agg #[.slice A x.sp.length c, I x.alo, I x.ahi]] W fun e w' => ∃ (B : Option Addr) (d : Nat), e = .returned (.pointer (some ⟨W.heap.size + 1, 0, none⟩)) ∧ w'.cell? ⟨W.heap.size + 1, 3, none⟩ = some (.slice B N d) ∧ (∀ k, k < N → ∃ b off, B = some ⟨b, off, none⟩ ∧ w'.cell? ⟨b, off + k, none⟩ = some (I (needV x k))) ∧ Below W.heap.size W w')) := Lib.hid fun h => by
    have hx := prkB_iff.1 h
    obtain ⟨N, hN, hNI, hN1, hN2⟩ := pow_nat hx.n6
    have h6 : x.sp.length ≤ 6 := hx.n6
    refine ⟨N, hN1, hN2, h6, hNI, fun h2 => ?_, fun h2 => ?_, fun W hW => ?_⟩
    · unfold needR; rw [hNI, h, h2]; rfl
    · have h3 := inB_true.1 h2
      refine ⟨s.toNat, by omega, by omega, ?_⟩
      unfold needR; rw [hNI, h, h2]; rfl
    · refine (newPark31 x A c W hx hW).mono ?_
      rintro e w' ⟨B, d, rfl, hP, hI, hB⟩
      rw [← hN] at hP hI
      refine ⟨B, d, rfl, hP.needs, fun k hk => ?_, hB⟩
      obtain ⟨b, off, h1, _, h3⟩ := hI (by rw [needsTo_len]; omega)
      have := h3 k (by rw [needsTo_len]; exact hk)
      rw [needsTo_get] at this
      exact ⟨b, off, h1, this⟩
  clear hA hxl
  simp only [Prk.val]
  generalize prkB x = b1 at *
  generalize needR x s = r at *
  generalize x.alo = al at *
  generalize x.ahi = ah at *
  have HW : Hid (Below w.heap.size w (w.alloc (.cells #[.slice A x.sp.length c, I al, I ah] 26))) := Lib.hid (below1 _ _)
  have HCP : Hid (∀ W, Below (w.heap.size + 1) (w.alloc (.cells #[.slice A x.sp.length c, I al, I ah] 26)) W → W.cell? ⟨w.heap.size, 0, none⟩ = some (.slice A x.sp.length c) ∧ W.cell? ⟨w.heap.size, 1, none⟩ = some (I al) ∧ W.cell? ⟨w.heap.size, 2, none⟩ = some (I ah) ∧ Below w.heap.size w W) := Lib.hid fun W hW =>
    ⟨(hW.cell (p := ⟨_, _, none⟩) (by simp)).trans (by simp [go_sem]), (hW.cell (p := ⟨_, _, none⟩) (by simp)).trans (by simp [go_sem]), (hW.cell (p := ⟨_, _, none⟩) (by simp)).trans (by simp [go_sem]), (below1 w _).trans (hW.mono (by omega))⟩
  have hsz : (w.alloc (.cells #[.slice A x.sp.length c, I al, I ah] 26)).heap.size = w.heap.size + 1 := by simp
  have HFI : Hid (∀ W, Below w.heap.size w W → Fours W W.heap.size A x.sp) := Lib.hid fun W hW => (HA.out.below hW).more hW.size
  cases b1
  · have HR1 := Lib.hid (HN0.out rfl)
    clear HN0 HN1
    go_enter Try.func11, Try.ntmps11
    go_wp2_with (first
      | (go_at_call 29; refine (H29.out _ (HFI.out _ HW.out)).mono ?_; rintro e w1 ⟨rfl, hB1⟩)
      | fail)
    refine bodyPost_ret (v := .tuple #[I 0, I 1]) (by simp [results, Try.results11, go_sem]) rfl ⟨by rw [HR1.out], HW.out.trans (hB1.mono (by omega))⟩
  · obtain ⟨N, hN1, hN2, hn6, hNI, h2, h3, h31⟩ := HN1.out rfl
    have hwN : wrap64 ((2 : Int) ^ x.sp.length) = N := by rw [hNI]; exact IntWalk.wrap64_in _ ⟨by omega, by omega⟩
    have hwS : IntKind.i64.wrap ((2 : Int) ^ x.sp.length) = N := by rw [hNI]; exact IntWalk.i64_in _ (by omega)
    have hwM : IntKind.i64.wrap ((N : Int) - 1) = (N : Int) - 1 := IntWalk.i64_in _ (by omega)
    have hwM2 : wrap64 ((N : Int) - 1) = (N : Int) - 1 := IntWalk.wrap64_in _ ⟨by omega, by omega⟩
    have HNI := Lib.hid hNI
    have H31 := Lib.hid h31
    have H30 : Hid (∀ W : World, Calls Try.prog 30 #[I s, I 0, I ((N : Int) - 1)] W fun e w' => e = .returned (.bool (inB s 0 ((N : Int) - 1))) ∧ W = w') := Lib.hid fun W => within30 _ _ _ W
    have H2 := Lib.hid h2
    have H3 := Lib.hid h3
    clear h2 h3 h31 HN0 HN1 hNI
    generalize inB s 0 ((N : Int) - 1) = b2 at *
    cases b2
    · have HR1 := Lib.hid (H2.out rfl)
      clear H2 H3
      go_enter Try.func11, Try.ntmps11
      go_wp2_with (first
        | (go_at_call 29; refine (H29.out _ (HFI.out _ HW.out)).mono ?_; rintro e w1 ⟨rfl, hB1⟩; obtain ⟨q0, q1, q2, hBw1⟩ := HCP.out w1 (hB1.mono (by omega)))
        | (go_at_call 30; refine (H30.out _).mono ?_; rintro e w3 ⟨rfl, rfl⟩)
        | fail)
      refine bodyPost_ret (v := .tuple #[I 0, I 2]) (by simp [results, Try.results11, go_sem]) rfl ⟨by rw [HR1.out], hBw1⟩
    · obtain ⟨k, rfl, hk, hr⟩ := H3.out rfl
      have HR1 := Lib.hid hr
      clear H2 H3 hr
      have p0 : (0 : Int) ≤ (k : Int) := by omega
      have p1 : (k : Int) < (N : Int) := by omega
      go_enter Try.func11, Try.ntmps11
      go_wp2_with (first
        | (go_at_call 29; refine (H29.out _ (HFI.out _ HW.out)).mono ?_; rintro e w1 ⟨rfl, hB1⟩; obtain ⟨q0, q1, q2, hBw1⟩ := HCP.out w1 (hB1.mono (by omega)))
        | (go_at_call 30; refine (H30.out _).mono ?_; rintro e w3 ⟨rfl, rfl⟩)
        | (go_at_call 31; refine (H31.out _ (HFI.out _ hBw1)).mono ?_; rintro e w4 ⟨B, d, rfl, hn3, hrow, hB4⟩; obtain ⟨nb, no, rfl, nk⟩ := hrow k hk; clear hrow)
        | fail)
      refine bodyPost_ret (v := .tuple #[I (needV x k), I 0]) (by simp [results, Try.results11, go_sem]) rfl ⟨by rw [HR1.out], hBw1.trans (hB4.mono hBw1.size)⟩
set_option maxRecDepth 100000 in
set_option maxHeartbeats 1000000 in
theorem lacking15 (x : Prk) (A B : Option Addr) (c d : Nat) (l : List Int) (w : World) (hA : Fours w w.heap.size A x.sp) (hl : Ints w w.heap.size B l) (hxl : x.sp.length ≤ 9223372036854775807) (hll : l.length ≤ 9223372036854775807) :
    Calls Try.prog 15 #[x.val A c, .slice B l.length d] w fun e w' => e = .returned (.tuple #[I (lackR x l).1, I (lackR x l).2.1, I (lackR x l).2.2]) ∧ Below w.heap.size w w' := by
  have HA := Lib.hid hA
  have H29 : Hid (∀ W : World, Fours W W.heap.size A x.sp → Calls Try.prog 29 #[.agg #[.slice A x.sp.length c, I x.alo, I x.ahi]] W fun e w' => e = .returned (.bool (prkB x)) ∧ Below W.heap.size W w') := Lib.hid fun W h => isPark29 x A c W h hxl
  have HL := Lib.hid hl
  have H35 : Hid (prkB x = true → ∀ W : World, Ints W W.heap.size B l → Calls Try.prog 35 #[.agg #[.slice A x.sp.length c, I x.alo, I x.ahi], .slice B l.length d] W fun e w' => e = .returned (.tuple #[.agg #[I (readP x l 0), I (readP x l 1), I (readP x l 2), I (readP x l 3), I (readP x l 4), I (readP x l 5)], .bool (postsB x l)]) ∧ Below W.heap.size W w') := Lib.hid fun hb W h => read35 x A B c d l W (prkB_iff.1 hb).n6 h hll
  have H31 : Hid (prkB x = true → ∀ W : World, Fours W W.heap.size A x.sp → Calls Try.prog 31 #[.agg #[.slice A x.sp.length c, I x.alo, I x.ahi]] W fun e w' => ∃ (B' : Option Addr) (d' P : Nat), e = .returned (.pointer (some ⟨P, 0, none⟩)) ∧ ParkAt w' P x A c (.slice B' (2 ^ x.n) d') ∧ Ints w' w'.heap.size B' (needsTo x (2 ^ x.n)) ∧ Below W.heap.size W w') := Lib.hid fun hb W hW => (newPark31 x A c W (prkB_iff.1 hb) hW).mono fun e w' ⟨B', d', h1, h2, h3, h4⟩ => ⟨B', d', _, h1, h2, h3, h4⟩
  have H39 : Hid (prkB x = true → postsB x l = true → ∀ (W : World) (B' : Option Addr) (d' P : Nat), ParkAt W P x A c (.slice B' (2 ^ x.n) d') → Ints W W.heap.size B' (needsTo x (2 ^ x.n)) → Calls Try.prog 39 #[.pointer (some ⟨P, 0, none⟩), .agg #[I (readP x l 0), I (readP x l 1), I (readP x l 2), I (readP x l 3), I (readP x l 4), I (readP x l 5)]] W fun e w' =>
      e = .returned (.tuple #[I ((lackTo (needV x) (forX x (crF l)) (2 ^ x.n)).1 : Nat), I (lackTo (needV x) (forX x (crF l)) (2 ^ x.n)).2]) ∧ Below W.heap.size W w') := Lib.hid fun hb hb2 W B' d' P hP hI => by
    have h := lacking39N x P A B' c d' (readP x l) W (prkB_iff.1 hb) hP hI (fun i hi => by rw [readP_eq hb2 hi]; exact (posts_crF (postsB_iff.1 hb2)).2 i hi)
    rwa [lackTo_congr (n2 := needV x) (h2 := forX x (crF l)) _ (fun S _ => ⟨rfl, forX_congr (fun i hi => readP_eq hb2 hi) S⟩)] at h
  have HR : Hid (lackR x l = lackOf (prkB x) (postsB x l) (lackTo (needV x) (forX x (crF l)) (2 ^ x.n))) := Lib.hid rfl
  clear hA hl hxl hll
  simp only [Prk.val]
  generalize prkB x = b1 at *
  generalize postsB x l = b2 at *
  generalize lackR x l = r at *
  generalize readP x l = p at *
  generalize lackTo (needV x) (forX x (crF l)) (2 ^ x.n) = la at *
  obtain ⟨ls, lm⟩ := la
  simp only at HR H39
  generalize hal : x.alo = al at *
  generalize hah : x.ahi = ah at *
  clear hal hah
  have HW : Hid (Below w.heap.size w (w.alloc (.cells #[.slice A x.sp.length c, I al, I ah] 26))) := Lib.hid (below1 _ _)
  have HCP : Hid (∀ W, Below (w.heap.size + 1) (w.alloc (.cells #[.slice A x.sp.length c, I al, I ah] 26)) W → W.cell? ⟨w.heap.size, 0, none⟩ = some (.slice A x.sp.length c) ∧ W.cell? ⟨w.heap.size, 1, none⟩ = some (I al) ∧ W.cell? ⟨w.heap.size, 2, none⟩ = some (I ah) ∧ Below w.heap.size w W) := Lib.hid fun W hW =>
    ⟨(hW.cell (p := ⟨_, _, none⟩) (by simp)).trans (by simp [go_sem]), (hW.cell (p := ⟨_, _, none⟩) (by simp)).trans (by simp [go_sem]), (hW.cell (p := ⟨_, _, none⟩) (by simp)).trans (by simp [go_sem]), (below1 w _).trans (hW.mono (by omega))⟩
  have hsz : (w.alloc (.cells #[.slice A x.sp.length c, I al, I ah] 26)).heap.size = w.heap.size + 1 := by simp
  have HFI : Hid (∀ W, Below w.heap.size w W → Fours W W.heap.size A x.sp ∧ Ints W W.heap.size B l) := Lib.hid fun W hW => ⟨(HA.out.below hW).more hW.size, (HL.out.below hW).more hW.size⟩
  cases b1
  · have HR1 : Hid (r = (0, 0, 1)) := Lib.hid (by rw [HR.out]; rfl)
    clear HR H39 H31 H35
    go_enter Try.func15, Try.ntmps15
    go_wp2_with (first
      | (go_at_call 29; refine (H29.out _ (HFI.out _ HW.out).1).mono ?_; rintro e w1 ⟨rfl, hB1⟩)
      | fail)
    refine bodyPost_ret (v := .tuple #[I 0, I 0, I 1]) (by simp [results, Try.results15, go_sem]) rfl ⟨by rw [HR1.out], HW.out.trans (hB1.mono (by omega))⟩
  · replace H35 := Lib.hid (H35.out rfl)
    replace H31 := Lib.hid (H31.out rfl)
    replace H39 := Lib.hid (H39.out rfl)
    cases b2
    · have HR1 : Hid (r = (0, 0, 2)) := Lib.hid (by rw [HR.out]; rfl)
      clear HR H39 H31
      go_enter Try.func15, Try.ntmps15
      go_wp2_with (first
        | (go_at_call 29; refine (H29.out _ (HFI.out _ HW.out).1).mono ?_; rintro e w1 ⟨rfl, hB1⟩; obtain ⟨q0, q1, q2, hBw1⟩ := HCP.out w1 (hB1.mono (by omega)))
        | (go_at_call 35; refine (H35.out _ (HFI.out _ hBw1).2).mono ?_; rintro e w2 ⟨rfl, hB2⟩)
        | fail)
      refine bodyPost_ret (v := .tuple #[I 0, I 0, I 2]) (by simp [results, Try.results15, go_sem]) rfl ⟨by rw [HR1.out], (hBw1.trans (hB2.mono hBw1.size)).alloc (hBw1.trans (hB2.mono hBw1.size)).size _⟩
    · replace H39 := Lib.hid (H39.out rfl)
      by_cases h0 : ls = 0
      · subst h0
        have HR1 : Hid (r = (0, 0, 4)) := Lib.hid (by rw [HR.out]; simp [lackOf])
        clear HR
        go_enter Try.func15, Try.ntmps15
        go_wp2_with (first
          | (go_at_call 29; refine (H29.out _ (HFI.out _ HW.out).1).mono ?_; rintro e w1 ⟨rfl, hB1⟩; obtain ⟨q0, q1, q2, hBw1⟩ := HCP.out w1 (hB1.mono (by omega)))
          | (go_at_call 35; refine (H35.out _ (HFI.out _ hBw1).2).mono ?_; rintro e w2 ⟨rfl, hB2⟩; obtain ⟨s0, s1, s2, hBw2⟩ := HCP.out w2 ((hB1.mono (by omega)).trans (hB2.mono (by have := hB1.size; omega))))
          | fail)
        have hz2 : w.heap.size + 1 ≤ w2.heap.size := by have := hB1.size; have := hB2.size; omega
        have HT : Hid (Box (w2.alloc (.cells #[I (p 0), I (p 1), I (p 2), I (p 3), I (p 4), I (p 5)] 65)) w2.heap.size (six p)) := Lib.hid (Box.new w2 (six p) 65)
        have HB3 : Hid (Below w2.heap.size w2 (w2.alloc (.cells #[I (p 0), I (p 1), I (p 2), I (p 3), I (p 4), I (p 5)] 65))) := Lib.hid (below1 _ _)
        have hz3 : (w2.alloc (.cells #[I (p 0), I (p 1), I (p 2), I (p 3), I (p 4), I (p 5)] 65)).heap.size = w2.heap.size + 1 := by simp
        generalize w2.alloc (.cells #[I (p 0), I (p 1), I (p 2), I (p 3), I (p 4), I (p 5)] 65) = w3 at *
        have HBW : Hid (Below (w.heap.size + 1) (w.alloc (.cells #[.slice A x.sp.length c, I al, I ah] 26)) w3) := Lib.hid ((hB1.mono (by omega)).trans ((hB2.mono (by have := hB1.size; omega)).trans (HB3.out.mono hz2)))
        clear hB1 hB2 q0 q1 q2 s0 s1 s2 hBw1 hBw2
        obtain ⟨n0, n1, n2, hBw3⟩ := HCP.out w3 HBW.out
        refine (wpIn_wide (n := 9)).1 ?_
        refine wpIn_region_plan (Plan.ons [2, 0, 1, 3, 4, 5, 6, 7, 8] .fin) [2] (fun W' => Below w3.heap.size w3 W') [] rfl (by kernel_rfl) (by kernel_rfl) (fun _ d _ _ _ h => by cases d <;> exact h) (Below.refl _ _).drew ?_
        (refine ordQ_held (.agg #[I (p 0), I (p 1), I (p 2), I (p 3), I (p 4), I (p 5)]) rfl rfl rfl rfl (fun W' hC' => ?_) (fun K hK => ?_); (focus (obtain ⟨g0, g1, g2, g3, g4, g5⟩ := (show _ ∧ _ ∧ _ ∧ _ ∧ _ ∧ _ from ⟨((HT.out.call hC').at_ 0 _ (six_at _ (by omega))).1, ((HT.out.call hC').at_ 1 _ (six_at _ (by omega))).1, ((HT.out.call hC').at_ 2 _ (six_at _ (by omega))).1, ((HT.out.call hC').at_ 3 _ (six_at _ (by omega))).1, ((HT.out.call hC').at_ 4 _ (six_at _ (by omega))).1, ((HT.out.call hC').at_ 5 _ (six_at _ (by omega))).1⟩); go_simp; try exact ⟨rfl, rfl⟩)); go_simp; refine hK _ ?_; clear hK K)
        (refine ordQ_li rfl rfl rfl (fun K hK => ?_); go_simp; refine hK _ ?_; clear hK K)
        refine ordQ_hv rfl rfl rfl (fun K hK => ?_)
        gi_wp2_with (refine And.intro trivial ?_; gi_at_call 31; refine callsIn_wide.2 ((H31.out _ (HFI.out _ hBw3.drew).1).mono ?_); rintro e w4 ⟨B', d', P, rfl, hP4, hI4, hB4⟩)
        have hb4 : Below w3.heap.size w3 w4 := by simpa using (Below.refl _ _).drew.trans hB4
        refine hK _ _ (fun _ => hb4) ?_
        clear hK K hB4
        refine ordQ_hv rfl rfl rfl (fun K hK => ?_)
        gi_wp2_with (refine And.intro trivial ?_; gi_at_call 39; refine callsIn_wide.2 ((H39.out _ _ _ _ hP4 hI4).mono ?_); rintro e w5 ⟨rfl, hB5⟩)
        have hb5 : Below w3.heap.size w3 w5 := hb4.trans (hB5.mono hb4.size)
        refine hK _ _ (fun _ => hb5) ?_
        clear hK K hB5 hP4 hI4
        iterate 5 (refine ordQ_li rfl rfl rfl (fun K hK => ?_); go_simp; refine hK _ ?_; clear hK K)
        refine ordQ_fin ?_
        have hB6 := hBw3.trans (hb5.mono hBw3.size)
        go_wp2_with (fail)
        refine bodyPost_ret (v := .tuple #[I 0, I 0, I 4]) (by simp [results, Try.results15, go_sem]) rfl ⟨by rw [HR1.out], hB6⟩
      · have HR1 : Hid (r = ((ls : Int), lm, 0)) := Lib.hid (by rw [HR.out]; simp [lackOf, h0])
        have e0 : ((ls : Int) == 0) = false := by simpa using h0
        have e0' : (ls == 0) = false := by simpa using h0
        clear HR
        go_enter Try.func15, Try.ntmps15
        go_wp2_with (first
          | (go_at_call 29; refine (H29.out _ (HFI.out _ HW.out).1).mono ?_; rintro e w1 ⟨rfl, hB1⟩; obtain ⟨q0, q1, q2, hBw1⟩ := HCP.out w1 (hB1.mono (by omega)))
          | (go_at_call 35; refine (H35.out _ (HFI.out _ hBw1).2).mono ?_; rintro e w2 ⟨rfl, hB2⟩; obtain ⟨s0, s1, s2, hBw2⟩ := HCP.out w2 ((hB1.mono (by omega)).trans (hB2.mono (by have := hB1.size; omega))))
          | fail)
        have hz2 : w.heap.size + 1 ≤ w2.heap.size := by have := hB1.size; have := hB2.size; omega
        have HT : Hid (Box (w2.alloc (.cells #[I (p 0), I (p 1), I (p 2), I (p 3), I (p 4), I (p 5)] 65)) w2.heap.size (six p)) := Lib.hid (Box.new w2 (six p) 65)
        have HB3 : Hid (Below w2.heap.size w2 (w2.alloc (.cells #[I (p 0), I (p 1), I (p 2), I (p 3), I (p 4), I (p 5)] 65))) := Lib.hid (below1 _ _)
        have hz3 : (w2.alloc (.cells #[I (p 0), I (p 1), I (p 2), I (p 3), I (p 4), I (p 5)] 65)).heap.size = w2.heap.size + 1 := by simp
        generalize w2.alloc (.cells #[I (p 0), I (p 1), I (p 2), I (p 3), I (p 4), I (p 5)] 65) = w3 at *
        have HBW : Hid (Below (w.heap.size + 1) (w.alloc (.cells #[.slice A x.sp.length c, I al, I ah] 26)) w3) := Lib.hid ((hB1.mono (by omega)).trans ((hB2.mono (by have := hB1.size; omega)).trans (HB3.out.mono hz2)))
        clear hB1 hB2 q0 q1 q2 s0 s1 s2 hBw1 hBw2
        obtain ⟨n0, n1, n2, hBw3⟩ := HCP.out w3 HBW.out
        refine (wpIn_wide (n := 9)).1 ?_
        refine wpIn_region_plan (Plan.ons [2, 0, 1, 3, 4, 5, 6, 7, 8] .fin) [2] (fun W' => Below w3.heap.size w3 W') [] rfl (by kernel_rfl) (by kernel_rfl) (fun _ d _ _ _ h => by cases d <;> exact h) (Below.refl _ _).drew ?_
        (refine ordQ_held (.agg #[I (p 0), I (p 1), I (p 2), I (p 3), I (p 4), I (p 5)]) rfl rfl rfl rfl (fun W' hC' => ?_) (fun K hK => ?_); (focus (obtain ⟨g0, g1, g2, g3, g4, g5⟩ := (show _ ∧ _ ∧ _ ∧ _ ∧ _ ∧ _ from ⟨((HT.out.call hC').at_ 0 _ (six_at _ (by omega))).1, ((HT.out.call hC').at_ 1 _ (six_at _ (by omega))).1, ((HT.out.call hC').at_ 2 _ (six_at _ (by omega))).1, ((HT.out.call hC').at_ 3 _ (six_at _ (by omega))).1, ((HT.out.call hC').at_ 4 _ (six_at _ (by omega))).1, ((HT.out.call hC').at_ 5 _ (six_at _ (by omega))).1⟩); go_simp; try exact ⟨rfl, rfl⟩)); go_simp; refine hK _ ?_; clear hK K)
        (refine ordQ_li rfl rfl rfl (fun K hK => ?_); go_simp; refine hK _ ?_; clear hK K)
        refine ordQ_hv rfl rfl rfl (fun K hK => ?_)
        gi_wp2_with (refine And.intro trivial ?_; gi_at_call 31; refine callsIn_wide.2 ((H31.out _ (HFI.out _ hBw3.drew).1).mono ?_); rintro e w4 ⟨B', d', P, rfl, hP4, hI4, hB4⟩)
        have hb4 : Below w3.heap.size w3 w4 := by simpa using (Below.refl _ _).drew.trans hB4
        refine hK _ _ (fun _ => hb4) ?_
        clear hK K hB4
        refine ordQ_hv rfl rfl rfl (fun K hK => ?_)
        gi_wp2_with (refine And.intro trivial ?_; gi_at_call 39; refine callsIn_wide.2 ((H39.out _ _ _ _ hP4 hI4).mono ?_); rintro e w5 ⟨rfl, hB5⟩)
        have hb5 : Below w3.heap.size w3 w5 := hb4.trans (hB5.mono hb4.size)
        refine hK _ _ (fun _ => hb5) ?_
        clear hK K hB5 hP4 hI4
        iterate 5 (refine ordQ_li rfl rfl rfl (fun K hK => ?_); go_simp; refine hK _ ?_; clear hK K)
        refine ordQ_fin ?_
        have hB6 := hBw3.trans (hb5.mono hBw3.size)
        go_wp2_with (fail)
        refine bodyPost_ret (v := .tuple #[I ls, I lm, I 0]) (by simp [results, Try.results15, go_sem]) rfl ⟨by rw [HR1.out], hB6⟩
end Go.Proofs.Ytfebhofihioaoaa
