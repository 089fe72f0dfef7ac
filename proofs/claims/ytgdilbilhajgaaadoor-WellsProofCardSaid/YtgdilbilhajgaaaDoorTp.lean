/- WellsProof: the walk. -/
import Derived.Test.YtgdilbilhajgaaaDoorQ1
namespace Go.Proofs.YtgdilbilhajgaaaDoor
set_option linter.unusedVariables false
set_option linter.unusedSimpArgs false
open Go Go.RowKit

theorem sorted_le : ∀ (p : List Nat) (lo N : Nat), p.Pairwise (· < ·) → (∀ k ∈ p, lo ≤ k ∧ k < N) → p.length + lo ≤ N ∨ p = []
  | [], _, _, _, _ => .inr rfl
  | x :: r, lo, N, h, hk => by
    obtain ⟨h1, h2⟩ := List.pairwise_cons.1 h
    have hx := hk x (by simp)
    have := sorted_le r (x + 1) N h2 (fun k hk' => ⟨h1 k hk', (hk k (by simp [hk'])).2⟩)
    rcases this with h3 | rfl
    · exact .inl (by simp only [List.length_cons]; omega)
    · exact .inl (by simp; omega)
theorem sorted_len {p : List Nat} {N : Nat} (h : p.Pairwise (· < ·)) (hk : ∀ k ∈ p, k < N) : p.length ≤ N := by
  rcases sorted_le p 0 N h (fun k hk' => ⟨Nat.zero_le _, hk k hk'⟩) with h3 | rfl
  · omega
  · simp
/-- The boxes of the arguments. -/
def BoxesP (w : World) (A B : Option Addr) (c d : Nat) (m : List (Int × Int)) (l : List (Int × Int × Int)) (main : Int) (W : World) : Prop :=
  (W.cell? ⟨w.heap.size, 0, none⟩ = some (.slice A m.length c) ∧ W.cell? ⟨w.heap.size + 1, 0, none⟩ = some (.slice B l.length d) ∧ W.cell? ⟨w.heap.size + 1 + 1, 0, none⟩ = some (I main)) ∧
  Pairs W W.heap.size A m ∧ Threes W W.heap.size B l ∧ TabOk W ∧ Below w.heap.size w W ∧ w.heap.size + 3 ≤ W.heap.size
abbrev W3 (w : World) (A B : Option Addr) (c d : Nat) (m : List (Int × Int)) (l : List (Int × Int × Int)) (main : Int) : World := ((w.alloc (.cells #[.slice A m.length c] 22)).alloc (.cells #[.slice B l.length d] 23)).alloc (.cells #[I main] 3)
theorem boxesP {w : World} {A B : Option Addr} {c d : Nat} {m : List (Int × Int)} {l : List (Int × Int × Int)} {main : Int} (hm : Pairs w w.heap.size A m) (hl : Threes w w.heap.size B l) (hT : TabOk w) (W : World) (hW : Below (w.heap.size + 3) (W3 w A B c d m l main) W) : BoxesP w A B c d m l main W := by
  have h2 : Below w.heap.size w W := ((((Below.refl _ w).alloc (Nat.le_refl _) _).alloc (by simp) _).alloc (by simp; omega) _).trans (hW.mono (by omega))
  refine ⟨⟨?_, ?_, ?_⟩, (hm.below h2).more h2.size, (hl.below h2).more h2.size, hT.below h2, h2, by have := hW.size; simpa using this⟩
  · rw [hW.cell (p := ⟨w.heap.size, _, none⟩) (by simp)]; simp [go_sem]
  · rw [hW.cell (p := ⟨w.heap.size + 1, _, none⟩) (by simp)]; simp [go_sem]
  · rw [hW.cell (p := ⟨w.heap.size + 1 + 1, _, none⟩) (by simp)]; simp [go_sem]
def ProofHyp (A B : Option Addr) (c d : Nat) (m : List (Int × Int)) (l : List (Int × Int × Int)) (main : Int) (w : World) (R13 R23 : World → Ending → World → Prop) : Prop :=
  (∀ W, TabOk W → Calls Tryd.prog 12 #[] W fun e w' => e = .returned (.bool true) ∧ Below W.heap.size W w') ∧
  (∀ W, Below (w.heap.size + 3) (W3 w A B c d m l main) W → BoxesP w A B c d m l main W) ∧
  (∀ W, Calls Tryd.prog 11 #[.slice A m.length c, .slice B l.length d, I 24] W fun e w' => e = .returned (.bool false) ∧ W = w') ∧
  (∀ W, BoxesP w A B c d m l main W → Calls Tryd.prog 13 #[.slice A m.length c, .slice B l.length d, I main] W (R13 W)) ∧
  (∀ W, BoxesP w A B c d m l main W → Calls Tryd.prog 23 #[.slice A m.length c, .slice B l.length d] W (R23 W))
def Pr2 (a b : Value) (W : World) (e : Ending) (w' : World) : Prop := e = .returned (.tuple #[a, b]) ∧ Below W.heap.size W w'
def Ov3 (a b c : Value) (W : World) (e : Ending) (w' : World) : Prop := e = .returned (.tuple #[a, b, c]) ∧ Below W.heap.size W w'

set_option maxRecDepth 100000 in
set_option maxHeartbeats 8000000 in
theorem proof_err (ep ef : Int) (hef : (ef != 0) = true) (hep : (ep == ef) = true ∨ (ep == ef) = false ∧ (ep == 2) = true) (A B : Option Addr) (c d : Nat) (m : List (Int × Int)) (l : List (Int × Int × Int)) (main : Int) (set : Int) (w : World) (h : ProofHyp A B c d m l main w (Pr2 nilS (I ep)) (Ov3 nilS nilS (I ef))) :
    Calls Tryd.prog 8 #[.slice A m.length c, .slice B l.length d, I main, .int .u16 set] w fun e w' => e = .returned (.bool true) ∧ Below w.heap.size w w' := by
  obtain ⟨hA, hCE, hG, hP, hO⟩ := h
  have HA := Lib.hid hA; have HCE := Lib.hid hCE; have HG := Lib.hid hG; have HP := Lib.hid hP; have HO := Lib.hid hO
  clear hA hCE hG hP hO
  rcases hep with hep | ⟨hep, he2⟩
  all_goals
    go_enter Tryd.func8, Tryd.ntmps8
    go_wp2_with (first
      | (go_at_call 11; have hW1 : Below (w.heap.size + 3) (W3 w A B c d m l main) (W3 w A B c d m l main) := Below.refl _ _; obtain ⟨⟨a1, a2, a3⟩, b1, b2, b3, b4, b5⟩ := HCE.out _ hW1; have HX1 := Lib.hid (HCE.out _ hW1); clear b1 b2 b3; refine (HG.out _).mono ?_; rintro e w1 ⟨rfl, rfl⟩)
      | (go_at_call 13; refine (HP.out _ HX1.out).mono ?_; rintro e w2 ⟨rfl, hB2⟩; have hW2 := hW1.trans (hB2.mono b5); obtain ⟨⟨d1, d2, d3⟩, _, _, _, _, d5⟩ := HCE.out _ hW2; have HX2 := Lib.hid (HCE.out _ hW2))
      | (go_at_call 23; refine (HO.out _ HX2.out).mono ?_; rintro e w3 ⟨rfl, hB3⟩; have hW3 := hW2.trans (hB3.mono d5); obtain ⟨_, _, _, e4, e5, e6⟩ := HCE.out _ hW3; have HT3 := Lib.hid e4; clear e4)
      | (go_at_call 12; refine (HA.out _ HT3.out).mono ?_; rintro e w9 ⟨rfl, hB9⟩)
      | fail)
    go_ret
    exact ⟨rfl, e5.trans (hB9.mono e5.size)⟩
set_option maxRecDepth 100000 in
set_option maxHeartbeats 8000000 in
theorem proof_range (v1 v2 : Value) (A B : Option Addr) (c d : Nat) (m : List (Int × Int)) (l : List (Int × Int × Int)) (main : Int) (hmain : (decide (main < 0) = true) ∨ (decide (main < 0) = false ∧ decide ((m.length : Int) ≤ main) = true)) (set : Int) (w : World) (hMA : ∀ W, BoxesP w A B c d m l main W → Calls Tryd.prog 19 #[.slice A m.length c] W fun e w' => e = .returned (.bool true) ∧ Below W.heap.size W w')
    (h : ProofHyp A B c d m l main w (Pr2 nilS (I 2)) (fun W e w' => ∃ v1 v2, Ov3 v1 v2 (I 0) W e w')) :
    Calls Tryd.prog 8 #[.slice A m.length c, .slice B l.length d, I main, .int .u16 set] w fun e w' => e = .returned (.bool true) ∧ Below w.heap.size w w' := by
  obtain ⟨hA, hCE, hG, hP, hO⟩ := h
  have HA := Lib.hid hA; have HCE := Lib.hid hCE; have HG := Lib.hid hG; have HP := Lib.hid hP; have HO := Lib.hid hO; have HMA := Lib.hid hMA
  clear hA hCE hG hP hO hMA
  rcases hmain with hmain | ⟨hmain, hm2⟩
  all_goals
    go_enter Tryd.func8, Tryd.ntmps8
    go_wp2_with (first
      | (go_at_call 11; have hW1 : Below (w.heap.size + 3) (W3 w A B c d m l main) (W3 w A B c d m l main) := Below.refl _ _; obtain ⟨⟨a1, a2, a3⟩, b1, b2, b3, b4, b5⟩ := HCE.out _ hW1; have HX1 := Lib.hid (HCE.out _ hW1); clear b1 b2 b3; refine (HG.out _).mono ?_; rintro e w1 ⟨rfl, rfl⟩)
      | (go_at_call 13; refine (HP.out _ HX1.out).mono ?_; rintro e w2 ⟨rfl, hB2⟩; have hW2 := hW1.trans (hB2.mono b5); obtain ⟨⟨d1, d2, d3⟩, _, _, _, _, d5⟩ := HCE.out _ hW2; have HX2 := Lib.hid (HCE.out _ hW2))
      | (go_at_call 23; refine (HO.out _ HX2.out).mono ?_; rintro e w3 ⟨u1, u2, rfl, hB3⟩; have hW3 := hW2.trans (hB3.mono d5); obtain ⟨⟨f1, f2, f3⟩, _, _, e4, e5, e6⟩ := HCE.out _ hW3; have HX3 := Lib.hid (HCE.out _ hW3); clear e4)
      | (go_at_call 19; refine (HMA.out _ HX3.out).mono ?_; rintro e w4 ⟨rfl, hB4⟩; have hW4 := hW3.trans (hB4.mono e6); obtain ⟨⟨g1, g2, g3⟩, _, _, g4, g5, g6⟩ := HCE.out _ hW4; have HT4 := Lib.hid g4; clear g4)
      | (go_at_call 12; refine (HA.out _ HT4.out).mono ?_; rintro e w9 ⟨rfl, hB9⟩)
      | fail)
    go_ret
    exact ⟨rfl, g5.trans (hB9.mono g5.size)⟩
-- in range
theorem take_mem (a : Int) (x : List Int) (k : Nat) (h : k < x.length) : decide (a ∈ x.take (k + 1)) = (decide (a ∈ x.take k) || decide (x[k] = a)) := by
  rw [List.take_succ_eq_append_getElem h]
  have e : (a ∈ x.take k ++ [x[k]]) ↔ (a ∈ x.take k ∨ x[k] = a) := by
    rw [List.mem_append, List.mem_singleton]
    exact or_congr Iff.rfl eq_comm
  by_cases h1 : a ∈ x.take k
  · rw [decide_eq_true h1, decide_eq_true (e.2 (.inl h1))]; rfl
  · by_cases h2 : x[k] = a
    · rw [decide_eq_true h2, decide_eq_true (e.2 (.inr h2)), Bool.or_true]
    · rw [decide_eq_false h1, decide_eq_false h2, decide_eq_false (fun h3 => (e.1 h3).elim h1 h2)]; rfl
theorem sorted_snoc {q : List Nat} {k : Nat} (h1 : q.Pairwise (· < ·)) (h2 : ∀ j ∈ q, j < k) : (q ++ [k]).Pairwise (· < ·) ∧ ∀ j ∈ q ++ [k], j < k + 1 := by
  refine ⟨List.pairwise_append.2 ⟨h1, List.pairwise_singleton _ _, fun a ha b hb => ?_⟩, fun j hj => ?_⟩
  · rw [List.mem_singleton.1 hb]; exact h2 a ha
  · rcases List.mem_append.1 hj with h | h
    · have := h2 j h; omega
    · rw [List.mem_singleton.1 h]; omega
theorem nats_own {W : World} {base : Nat} {e : TypeId} {v : Value} {q : List Nat} (h : W.ownsRow base e 1 v q.length (q.map fun k : Nat => I (k : Int))) : ∃ A c, v = .slice A q.length c ∧ Ints W W.heap.size A (q.map fun k : Nat => (k : Int)) := by
  have e1 : (q.map fun k : Nat => I (k : Int)) = (q.map fun k : Nat => (k : Int)).map I := by simp
  rw [e1] at h
  obtain ⟨A, c, h1, h2⟩ := ints_ownN h (by simp)
  exact ⟨A, c, by simpa using h1, h2⟩
/-- What Over answers, as far as the law reads it. -/
def OvS (mn : Nat) (b : Bool) (W : World) (e : Ending) (w' : World) : Prop := ∃ (x : List Int) (A1 : Option Addr) (c1 : Nat) (v2 : Value), e = .returned (.tuple #[.slice A1 x.length c1, v2, I 0]) ∧ Ints w' w'.heap.size A1 x ∧ x.length ≤ 100 ∧ decide ((mn : Int) ∈ x) = b ∧ Below W.heap.size W w'
set_option maxRecDepth 100000 in
set_option maxHeartbeats 16000000 in
theorem proof_none (A B : Option Addr) (c d : Nat) (m : List (Int × Int)) (l : List (Int × Int × Int)) (mn : Nat) (hmn : mn < m.length) (hl12 : l.length ≤ 12) (set : Int) (hs0 : 0 ≤ set) (hs1 : set ≤ 65535) (w : World) (hMA : ∀ W, BoxesP w A B c d m l mn W → Calls Tryd.prog 19 #[.slice A m.length c] W fun e w' => e = .returned (.bool true) ∧ Below W.heap.size W w')
    (hS : ∀ (Q : Option Addr) (q : List Nat) (cq : Nat) W, BoxesP w A B c d m l mn W → Ints W W.heap.size Q (q.map fun k : Nat => (k : Int)) → q.Pairwise (· < ·) → (∀ k ∈ q, k < l.length) → Calls Tryd.prog 30 #[.slice Q q.length cq, .pointer (some ⟨w.heap.size, 0, none⟩), .pointer (some ⟨w.heap.size + 1, 0, none⟩), .pointer (some ⟨w.heap.size + 1 + 1, 0, none⟩)] W fun e w' => e = .returned (.bool false) ∧ Below W.heap.size W w')
    (h : ProofHyp A B c d m l mn w (Pr2 nilS (I 4)) (OvS mn false)) :
    Calls Tryd.prog 8 #[.slice A m.length c, .slice B l.length d, I mn, .int .u16 set] w fun e w' => e = .returned (.bool true) ∧ Below w.heap.size w w' := by
  obtain ⟨hA, hCE, hG, hP, hO⟩ := h
  have HA := Lib.hid hA; have HCE := Lib.hid hCE; have HG := Lib.hid hG; have HP := Lib.hid hP; have HO := Lib.hid hO; have HMA := Lib.hid hMA; have HS := Lib.hid hS
  obtain ⟨i0, hi0, hi1, hi2, hi3⟩ := info_parts info3
  have hu : Tryd.prog.underlying 26 = some (.slice 3) := Tryd.underlying26
  have HU := Lib.hid hu; have HI0 := Lib.hid hi0; have HI1 := Lib.hid hi1; have HI2 := Lib.hid hi2; have HI3 := Lib.hid hi3
  clear hu hi0 hi1 hi2 hi3
  clear hA hCE hG hP hO hMA hS
  go_enter Tryd.func8, Tryd.ntmps8
  go_wp2_with (first
    | (go_at_call 11; have hW1 : Below (w.heap.size + 3) (W3 w A B c d m l mn) (W3 w A B c d m l mn) := Below.refl _ _; obtain ⟨⟨a1, a2, a3⟩, b1, b2, b3, b4, b5⟩ := HCE.out _ hW1; have HX1 := Lib.hid (HCE.out _ hW1); clear b1 b2 b3; refine (HG.out _).mono ?_; rintro e w1 ⟨rfl, rfl⟩)
    | (go_at_call 13; refine (HP.out _ HX1.out).mono ?_; rintro e w2 ⟨rfl, hB2⟩; have hW2 := hW1.trans (hB2.mono b5); obtain ⟨⟨d1, d2, d3⟩, _, _, _, _, d5⟩ := HCE.out _ hW2; have HX2 := Lib.hid (HCE.out _ hW2); clear b4)
    | (go_at_call 23; refine (HO.out _ HX2.out).mono ?_; rintro e w3 ⟨x, A1, c1, u2, rfl, hx, hx1, hx2, hB3⟩; have HXL := Lib.hid hx; have HXM := Lib.hid hx2; clear hx hx2; have hW3 := hW2.trans (hB3.mono d5); obtain ⟨⟨f1, f2, f3⟩, _, _, e4, e5, e6⟩ := HCE.out _ hW3; have HX3 := Lib.hid (HCE.out _ hW3); clear e4 e5)
    | (go_at_call 19; refine (HMA.out _ HX3.out).mono ?_; rintro e w4 ⟨rfl, hB4⟩; have hW4 := hW3.trans (hB4.mono e6); obtain ⟨⟨g1, g2, g3⟩, _, _, _, _, g6⟩ := HCE.out _ hW4; have HXL4 := Lib.hid ((HXL.out.below hB4).more hB4.size); clear HXL)
    | fail)
  clear a1 a2 a3 d1 d2 d3 f1 f2 f3 HX1 HX2 HX3
  go_loopw [15, 95] (fun s15 s95 wr => ∃ (k : Nat) (bb : Bool), k ≤ x.length ∧ s95 = I k ∧ s15 = .bool bb ∧ Hid (bb = decide ((mn : Int) ∈ x.take k)) ∧ Below w4.heap.size w4 wr) (fun _ s _ => x.length - (intOf s).toNat)
  case atStart => exact ⟨0, false, Nat.zero_le _, rfl, rfl, Lib.hid (by simp), Below.refl _ _⟩
  case round =>
    obtain ⟨k, bb, hk, rfl, rfl, HBB, hB⟩ := hrel
    have hWr := hW4.trans (hB.mono g6)
    obtain ⟨⟨q1, q2, q3⟩, _, _, _, _, q6⟩ := HCE.out _ hWr
    by_cases hlt : k < x.length
    · obtain ⟨xb, xo, hXe, hxz, hxc⟩ := (HXL4.out.below hB) (by omega)
      subst hXe
      have x0 := hxc k hlt
      have HTM := Lib.hid (take_mem (mn : Int) x k hlt)
      generalize x[k] = u at *
      have p2 : (0 : Int) ≤ (k : Int) := by omega
      have p3 : (k : Int) < (x.length : Int) := by omega
      clear hxc
      cases bb
      · by_cases he : u = (mn : Int)
        · have heb : (u == (mn : Int)) = true := by simpa using he
          have HE := Lib.hid he
          clear he
          go_wp2
          go_roundw
          case rel => exact ⟨k + 1, true, by omega, by go_num, rfl, Lib.hid (by rw [HTM.out, decide_eq_true HE.out]; simp), hB⟩
          case measure => first | (simp [intOf]; done) | (simp [intOf]; omega)
        · have heb : (u == (mn : Int)) = false := by simpa using he
          have HE := Lib.hid he
          clear he
          go_wp2
          go_roundw
          case rel => exact ⟨k + 1, false, by omega, by go_num, rfl, Lib.hid (by rw [HTM.out, ← HBB.out, decide_eq_false HE.out]; rfl), hB⟩
          case measure => first | (simp [intOf]; done) | (simp [intOf]; omega)
      · go_wp2
        go_roundw
        case rel => exact ⟨k + 1, true, by omega, by go_num, rfl, Lib.hid (by rw [HTM.out, ← HBB.out]; rfl), hB⟩
        case measure => first | (simp [intOf]; done) | (simp [intOf]; omega)
    · obtain rfl : x.length = k := by omega
      have hbb := HBB.out
      rw [List.take_length, HXM.out] at hbb
      subst hbb
      clear HBB HXL4 HXM hB hW4 g1 g2 g3 g6
      generalize wr = w5 at *
      have HO0 : Hid (w5.ownsRow w5.heap.size 3 1 nilS 0 (([] : List Nat).map fun k : Nat => I (k : Int))) := Lib.hid (World.ownsRow_nil _ _ _ _)
      go_wp2_with (fail)
      go_loopw [18, 108] (fun s18 s108 wr => ∃ (k : Nat) (q : List Nat), k ≤ l.length ∧ s108 = I k ∧ Hid (q.Pairwise (· < ·) ∧ ∀ j ∈ q, j < k) ∧ Hid (wr.ownsRow w5.heap.size 3 1 s18 q.length (q.map fun k : Nat => I (k : Int))) ∧ Below w5.heap.size w5 wr) (fun _ s _ => l.length - (intOf s).toNat)
      case atStart => exact ⟨0, [], Nat.zero_le _, rfl, Lib.hid ⟨List.Pairwise.nil, fun _ h => by cases h⟩, HO0, Below.refl _ _⟩
      case round =>
        clear HO0
        obtain ⟨k, q, hk, rfl, HQ, HOQ, hB⟩ := hrel
        have hWr2 := hWr.trans (hB.mono q6)
        obtain ⟨⟨z1, z2, z3⟩, _, _, _, _, z6⟩ := HCE.out _ hWr2
        have hzB := hB.size
        by_cases hlt : k < l.length
        · have p2 : (0 : Int) ≤ (k : Int) := by omega
          have p3 : (k : Int) < (l.length : Int) := by omega
          have hql := sorted_len HQ.out.1 HQ.out.2
          have HOQ2 := Lib.hid (HOQ.out.alloc (.cells #[I k] 3))
          have HC3 := Lib.hid (cell_one3 wr (I k) 3)
          have hB2' : Below w5.heap.size w5 (wr.alloc (.cells #[I k] 3)) := hB.alloc hzB _
          go_wp2_with (first
            | (at_builtin; refine wpList_append_own _ rfl _ _ 26 rfl w5.heap.size 3 i0 (I 0) 1 8 HU.out HI0.out HI1.out HI2.out HI3.out rfl (by decide) _ _ _ rfl HOQ2.out ⟨wr.heap.size, 0, none⟩ 1 1 [I k] rfl rfl HC3.out (by simp [Value.oneCell']) (by unfold maxLen; omega) (by omega) (by simp; omega) ?_; intro v' w6 hown' hgrow _; have hB6 : Below w5.heap.size w5 w6 := hB2'.grown hgrow hB2'.size (fun g e => (HOQ.out.lt g e).1); have HOQ6 : Hid (w6.ownsRow w5.heap.size 3 1 v' (q ++ [k]).length ((q ++ [k]).map fun k : Nat => I (k : Int))) := Lib.hid (by simpa using hown'); clear hown' hgrow)
            | fail)
          · go_roundw
            case rel => exact ⟨k + 1, q ++ [k], by omega, by go_num, Lib.hid (sorted_snoc HQ.out.1 HQ.out.2), HOQ6, hB6⟩
            case measure => first | (simp [intOf]; done) | (simp [intOf]; omega)
          · go_roundw
            case rel => exact ⟨k + 1, q, by omega, by go_num, Lib.hid ⟨HQ.out.1, fun j hj => by have := HQ.out.2 j hj; omega⟩, HOQ, hB⟩
            case measure => first | (simp [intOf]; done) | (simp [intOf]; omega)
        · obtain rfl : l.length = k := by omega
          have hql := sorted_len HQ.out.1 HQ.out.2
          obtain ⟨Aq, cq, hvq, hiq⟩ := nats_own HOQ.out
          subst hvq
          have HIQ := Lib.hid hiq
          have HBX := Lib.hid (HCE.out _ hWr2)
          clear hiq HOQ hB hzB
          generalize wr = w6 at *
          go_wp2_with (first
            | (go_at_call 30; refine (HS.out Aq q cq _ HBX.out HIQ.out HQ.out.1 HQ.out.2).mono ?_; rintro e w7 ⟨rfl, hB7⟩; have hW7 := hWr2.trans (hB7.mono z6); obtain ⟨_, _, _, y4, y5, y6⟩ := HCE.out _ hW7; have HT7 := Lib.hid y4; clear y4)
            | (go_at_call 12; refine (HA.out _ HT7.out).mono ?_; rintro e w9 ⟨rfl, hB9⟩)
            | fail)
          go_ret
          exact ⟨rfl, y5.trans (hB9.mono y5.size)⟩
end Go.Proofs.YtgdilbilhajgaaaDoor
