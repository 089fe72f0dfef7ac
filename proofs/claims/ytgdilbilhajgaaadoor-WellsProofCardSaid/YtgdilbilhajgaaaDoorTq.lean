/- WellsProof: the walk when the main has a proof. -/
import Derived.Test.YtgdilbilhajgaaaDoorTp
namespace Go.Proofs.YtgdilbilhajgaaaDoor
set_option linter.unusedVariables false
set_option linter.unusedSimpArgs false
open Go Go.RowKit

theorem own_lenP {W : World} {base n size k c : Nat} {e : TypeId} {v : Value} {xs : List Value} {A : Option Addr} (h : W.ownsRow base e size v n xs) (hv : v = .slice A k c) : k = n := by
  rcases h.2 with ⟨h1, h2⟩ | ⟨g, cap, cur, h1, _⟩
  · rw [hv] at h1; injection h1 with _ h3 _; omega
  · rw [hv] at h1; injection h1
theorem own_capP {W : World} {base n size c : Nat} {e : TypeId} {xs : List Value} {A : Option Addr} (h : W.ownsRow base e size (.slice A n c) n xs) (h0 : 0 < n) : ∃ g, A = some ⟨g, 0, none⟩ ∧ n ≤ c ∧ c ≤ maxLen ∧ g < W.heap.size := by
  rcases h.2 with ⟨h1, h2⟩ | ⟨g, cap, cur, h1, h3, h4, h5, h6, _⟩
  · omega
  · injection h1 with e1 _ e3
    subst e1 e3
    exact ⟨g, rfl, h5, h6, (h.lt g rfl).2⟩
def dropK (p : List Nat) (k : Nat) : List Nat := p.take k ++ p.drop (k + 1)
theorem dropK_len {p : List Nat} {k : Nat} (h : k < p.length) : (dropK p k).length = p.length - 1 := by simp [dropK]; omega
theorem dropK_mem {p : List Nat} {k a : Nat} (h : a ∈ dropK p k) : a ∈ p := by
  rcases List.mem_append.1 h with h | h
  · exact List.mem_of_mem_take h
  · exact List.mem_of_mem_drop h
theorem dropK_sorted {p : List Nat} {k : Nat} (h : p.Pairwise (· < ·)) (hk : k < p.length) : (dropK p k).Pairwise (· < ·) := by
  have e : p = p.take k ++ p[k] :: p.drop (k + 1) := by rw [← List.drop_eq_getElem_cons hk, List.take_append_drop]
  rw [e] at h
  obtain ⟨h1, h2, h3⟩ := List.pairwise_append.1 h
  exact List.pairwise_append.2 ⟨h1, (List.pairwise_cons.1 h2).2, fun a ha b hb => h3 a ha b (List.mem_cons_of_mem _ hb)⟩
theorem dropK_map (p : List Nat) (k : Nat) : (dropK p k).map (fun k : Nat => (k : Int)) = (p.take k).map (fun k : Nat => (k : Int)) ++ (p.drop (k + 1)).map (fun k : Nat => (k : Int)) := by simp [dropK]
theorem ints_at {W : World} {B : Nat} {A : Option Addr} {xs : List Int} (h : Ints W B A xs) : 0 < xs.length → ∃ ad, A = some ad ∧ ∀ j u, (xs.map I)[j]? = some u → W.cell? (ad.add j) = some u := fun h0 => by
  obtain ⟨b, off, rfl, _, hc⟩ := h h0
  refine ⟨_, rfl, fun j u hj => ?_⟩
  rw [List.getElem?_map] at hj
  have hj' : j < xs.length := by
    rcases Nat.lt_or_ge j xs.length with h | h
    · exact h
    · rw [List.getElem?_eq_none h] at hj; cases hj
  rw [List.getElem?_eq_getElem hj'] at hj
  cases hj
  rw [Addr.add_lit]
  exact hc j hj'
theorem ints_litP {W : World} {base n : Nat} {v : Value} {b : Addr} {e : TypeId} {xs : List Int} (hn : xs.length = n) (h : W.ownsRow base e 1 v n (xs.map I) ∨ n = 0 ∧ v = .slice (some b) 0 0) : ∃ A c, v = .slice A n c ∧ Ints W W.heap.size A xs := by
  rcases h with h | ⟨h, rfl⟩
  · obtain ⟨A, c, h1, h2⟩ := ints_ownN h hn
    exact ⟨A, c, by rw [h1, hn], h2⟩
  · exact ⟨some b, 0, by rw [h], fun h0 => by omega⟩
theorem lex_gt {q p : List Nat} {k : Nat} (hl : q.length = p.length) (hk : k < q.length) (hpre : ∀ j (h : j < q.length), j < k → q[j] = p[j]'(by omega)) (hne : q[k] ≠ p[k]'(by omega)) (hlt : ¬ q < p) : p[k]'(by omega) < q[k] := by
  rcases Nat.lt_trichotomy (q[k]) (p[k]'(by omega)) with h | h | h
  · exact absurd (List.lt_iff_exists.2 (.inr ⟨k, hk, by omega, fun j hj => hpre j (by omega) hj, h⟩)) hlt
  · exact absurd h hne
  · exact h
def PrS (p : List Nat) (W : World) (e : Ending) (w' : World) : Prop := ∃ v, e = .returned (.tuple #[v, I 0]) ∧ w'.ownsRow W.heap.size 3 1 v p.length (p.map fun k : Nat => I (k : Int)) ∧ Below W.heap.size W w'
/-- What each operation of the region that leaves out one reading yields. -/
def tV (fv : Value) (o2 : Option Addr) (pg cp : Nat) (p : List Nat) (k N : Nat) : Nat → Value → World → Prop
  | 0, v, _ => v = fv
  | 1, v, _ => ∃ g, v = .slice (some ⟨g, 0, none⟩) 0 0
  | 2, v, _ => v = .slice (some ⟨pg, 0, none⟩) p.length cp
  | 3, v, _ => v = I k
  | 4, v, _ => v = .slice (some ⟨pg, 0, none⟩) k cp
  | 5, v, W => W.ownsRow N 3 1 v k (((p.take k).map fun k : Nat => (k : Int)).map I) ∨ (k = 0 ∧ ∃ g, v = .slice (some ⟨g, 0, none⟩) 0 0)
  | 6, v, _ => v = .slice (some ⟨pg, 0, none⟩) p.length cp
  | 7, v, _ => v = I k
  | 8, v, _ => v = I ((k : Int) + 1)
  | 9, v, _ => v = .slice o2 (p.length - (k + 1)) (cp - (k + 1))
  | 10, v, W => ∃ A c, v = .slice A (p.length - 1) c ∧ Ints W W.heap.size A ((dropK p k).map fun k : Nat => (k : Int))
  | 11, v, _ => v = .bool false
  | _, _, _ => True
def tLast (i : Nat) : Option Nat := if i = 5 then some 10 else none
theorem tV_stab (fv : Value) (o2 : Option Addr) (pg cp : Nat) (p : List Nat) (k N : Nat) (i j : Nat) (v : Value) (W W' : World) (hij : i ≠ j) (hl : tLast i ≠ some j) (h : tV fv o2 pg cp p k N i v W) (hB : Below (if j = 10 then N else W.heap.size) W W') : tV fv o2 pg cp p k N i v W' := by
  rcases i with _ | _ | _ | _ | _ | _ | _ | _ | _ | _ | _ | _ | i
  case succ.succ.succ.succ.succ.zero =>
    rw [if_neg (fun e => hl (by rw [e]; rfl))] at hB
    exact h.imp (fun h => grown_own h hB) id
  case succ.succ.succ.succ.succ.succ.succ.succ.succ.succ.zero =>
    rw [if_neg (fun e => hij e.symm)] at hB
    obtain ⟨A, c, h1, h2⟩ := h
    exact ⟨A, c, h1, (h2.below hB).more hB.size⟩
  all_goals exact h
theorem ints_of_own' {W : World} {base c : Nat} {e : TypeId} {A : Option Addr} {p : List Nat} (h : W.ownsRow base e 1 (.slice A p.length c) p.length (p.map fun k : Nat => I (k : Int))) : Ints W W.heap.size A (p.map fun k : Nat => (k : Int)) := by
  obtain ⟨A', c', h1, h2⟩ := nats_own h
  injection h1 with e1 _ _
  rw [e1]
  exact h2
set_option maxRecDepth 100000 in
set_option maxHeartbeats 32000000 in
theorem proof_some (A B : Option Addr) (c d : Nat) (m : List (Int × Int)) (l : List (Int × Int × Int)) (mn : Nat) (p : List Nat) (sb : List Nat → Bool) (hmn : mn < m.length) (hl12 : l.length ≤ 12) (set : Int) (hs0 : 0 ≤ set) (hs1 : set ≤ 65535) (hps : p.Pairwise (· < ·)) (hpl : ∀ k ∈ p, k < l.length) (hsp : sb p = true)
    (hmin : ∀ q : List Nat, q.Pairwise (· < ·) → (∀ k ∈ q, k < l.length) → sb q = true → ¬ aheadL q p) (w : World) (hMA : ∀ W, BoxesP w A B c d m l mn W → Calls Tryd.prog 19 #[.slice A m.length c] W fun e w' => e = .returned (.bool true) ∧ Below W.heap.size W w')
    (hS : ∀ (Q : Option Addr) (q : List Nat) (cq : Nat) W, BoxesP w A B c d m l mn W → Ints W W.heap.size Q (q.map fun k : Nat => (k : Int)) → q.Pairwise (· < ·) → (∀ k ∈ q, k < l.length) → Calls Tryd.prog 30 #[.slice Q q.length cq, .pointer (some ⟨w.heap.size, 0, none⟩), .pointer (some ⟨w.heap.size + 1, 0, none⟩), .pointer (some ⟨w.heap.size + 1 + 1, 0, none⟩)] W fun e w' => e = .returned (.bool (sb q)) ∧ Below W.heap.size W w')
    (h : ProofHyp A B c d m l mn w (PrS p) (OvS mn true)) :
    Calls Tryd.prog 8 #[.slice A m.length c, .slice B l.length d, I mn, .int .u16 set] w fun e w' => e = .returned (.bool true) ∧ Below w.heap.size w w' := by
  have HPF := Lib.hid (And.intro hps hpl)
  have HSP := Lib.hid hsp
  have HMIN := Lib.hid hmin
  have hp12 := sorted_len hps hpl
  clear hps hpl hsp hmin
  obtain ⟨hA, hCE, hG, hP, hO⟩ := h
  have HA := Lib.hid hA; have HCE := Lib.hid hCE; have HG := Lib.hid hG; have HP := Lib.hid hP; have HO := Lib.hid hO; have HMA := Lib.hid hMA; have HS := Lib.hid hS
  obtain ⟨i0, hi0, hi1, hi2, hi3⟩ := info_parts info3
  have hu : Tryd.prog.underlying 26 = some (.slice 3) := Tryd.underlying26
  have HU := Lib.hid hu; have HI0 := Lib.hid hi0; have HI1 := Lib.hid hi1; have HI2 := Lib.hid hi2; have HI3 := Lib.hid hi3
  clear hu hi0 hi1 hi2 hi3
  clear hA hCE hG hP hO hMA hS
  go_enter Tryd.func8, Tryd.ntmps8
  go_wp2_with (first
    | (go_at_call 11; have hW1 : Below (w.heap.size + 3) (W3 w A B c d m l mn) (W3 w A B c d m l mn) := Below.refl _ _; obtain ⟨⟨a1, a2, a3⟩, b1, b2, b3, b4, b5⟩ := HCE.out _ hW1; have HX1 := Lib.hid (HCE.out _ hW1); clear b1 b2 b3; refine (HG.out _).mono ?_; rintro e w1 ⟨rfl, rfl⟩)
    | (go_at_call 13; refine (HP.out _ HX1.out).mono ?_; rintro e w2 ⟨vp, rfl, hop, hB2⟩; have HPO := Lib.hid hop; clear hop; obtain ⟨Ap, kp, cp, hvp⟩ := own_slice HPO.out; have hkp : kp = p.length := own_lenP HPO.out hvp; subst hkp; subst hvp; have hW2 := hW1.trans (hB2.mono b5); obtain ⟨⟨d1, d2, d3⟩, _, _, _, _, d5⟩ := HCE.out _ hW2; have HX2 := Lib.hid (HCE.out _ hW2); clear b4)
    | (go_at_call 23; refine (HO.out _ HX2.out).mono ?_; rintro e w3 ⟨x, A1, c1, u2, rfl, hx, hx1, hx2, hB3⟩; have HXL := Lib.hid hx; have HXM := Lib.hid hx2; clear hx hx2; have hW3 := hW2.trans (hB3.mono d5); obtain ⟨⟨f1, f2, f3⟩, _, _, e4, e5, e6⟩ := HCE.out _ hW3; have HX3 := Lib.hid (HCE.out _ hW3); clear e4 e5)
    | (go_at_call 19; refine (HMA.out _ HX3.out).mono ?_; rintro e w4 ⟨rfl, hB4⟩; have hW4 := hW3.trans (hB4.mono e6); obtain ⟨⟨g1, g2, g3⟩, _, _, _, _, g6⟩ := HCE.out _ hW4; have HXL4 := Lib.hid ((HXL.out.below hB4).more hB4.size); clear HXL)
    | fail)
  clear a1 a2 a3 d1 d2 d3 f1 f2 f3 HX1 HX2 HX3
  go_loopw [15, 95] (fun s15 s95 wr => ∃ (k : Nat) (bb : Bool), k ≤ x.length ∧ s95 = I k ∧ s15 = .bool bb ∧ Hid (bb = decide ((mn : Int) ∈ x.take k)) ∧ Below w4.heap.size w4 wr) (fun _ s _ => x.length - (intOf s).toNat)
  case atStart => exact ⟨0, false, Nat.zero_le _, rfl, rfl, Lib.hid (by simp), Below.refl _ _⟩
  case round =>
    obtain ⟨k, bb, hk, rfl, rfl, HBB, hB⟩ := hrel
    have hWr := hW4.trans (hB.mono g6)
    obtain ⟨⟨q1, q2, q3⟩, _, _, _, _, q6⟩ := HCE.out _ hWr
    by_cases hlt : k < x.length
    · obtain ⟨xb, xo, hXe, hxz, hxc⟩ := (HXL4.out.below hB) (by omega)
      subst hXe
      have x0 := hxc k hlt
      have HTM := Lib.hid (take_mem (mn : Int) x k hlt)
      generalize x[k] = u at *
      have p2 : (0 : Int) ≤ (k : Int) := by omega
      have p3 : (k : Int) < (x.length : Int) := by omega
      clear hxc
      cases bb
      · by_cases he : u = (mn : Int)
        · have heb : (u == (mn : Int)) = true := by simpa using he
          have HE := Lib.hid he
          clear he
          go_wp2
          go_roundw
          case rel => exact ⟨k + 1, true, by omega, by go_num, rfl, Lib.hid (by rw [HTM.out, decide_eq_true HE.out]; simp), hB⟩
          case measure => first | (simp [intOf]; done) | (simp [intOf]; omega)
        · have heb : (u == (mn : Int)) = false := by simpa using he
          have HE := Lib.hid he
          clear he
          go_wp2
          go_roundw
          case rel => exact ⟨k + 1, false, by omega, by go_num, rfl, Lib.hid (by rw [HTM.out, ← HBB.out, decide_eq_false HE.out]; rfl), hB⟩
          case measure => first | (simp [intOf]; done) | (simp [intOf]; omega)
      · go_wp2
        go_roundw
        case rel => exact ⟨k + 1, true, by omega, by go_num, rfl, Lib.hid (by rw [HTM.out, ← HBB.out]; rfl), hB⟩
        case measure => first | (simp [intOf]; done) | (simp [intOf]; omega)
    · obtain rfl : x.length = k := by omega
      have hbb := HBB.out
      rw [List.take_length, HXM.out] at hbb
      subst hbb
      have hB25 : Below w2.heap.size w2 wr := hB3.trans ((hB4.mono hB3.size).trans (hB.mono (by have := hB3.size; have := hB4.size; omega)))
      clear HBB HXL4 HXM hB hW4 g1 g2 g3 g6
      generalize wr = w5 at *
      have HO0 : Hid (w5.ownsRow w5.heap.size 3 1 nilS 0 (([] : List Nat).map fun k : Nat => I (k : Int))) := Lib.hid (World.ownsRow_nil _ _ _ _)
      go_wp2_with (fail)
      go_loopw [18, 108] (fun s18 s108 wr => ∃ (k : Nat) (q : List Nat), k ≤ l.length ∧ s108 = I k ∧ Hid (q.Pairwise (· < ·) ∧ ∀ j ∈ q, j < k) ∧ Hid (wr.ownsRow w5.heap.size 3 1 s18 q.length (q.map fun k : Nat => I (k : Int))) ∧ Below w5.heap.size w5 wr) (fun _ s _ => l.length - (intOf s).toNat)
      case atStart => exact ⟨0, [], Nat.zero_le _, rfl, Lib.hid ⟨List.Pairwise.nil, fun _ h => by cases h⟩, HO0, Below.refl _ _⟩
      case round =>
        clear HO0
        obtain ⟨k, q, hk, rfl, HQ, HOQ, hB⟩ := hrel
        have hWr2 := hWr.trans (hB.mono q6)
        obtain ⟨⟨z1, z2, z3⟩, _, _, _, _, z6⟩ := HCE.out _ hWr2
        have hzB := hB.size
        by_cases hlt : k < l.length
        · have p2 : (0 : Int) ≤ (k : Int) := by omega
          have p3 : (k : Int) < (l.length : Int) := by omega
          have hql := sorted_len HQ.out.1 HQ.out.2
          have HOQ2 := Lib.hid (HOQ.out.alloc (.cells #[I k] 3))
          have HC3 := Lib.hid (cell_one3 wr (I k) 3)
          have hB2' : Below w5.heap.size w5 (wr.alloc (.cells #[I k] 3)) := hB.alloc hzB _
          go_wp2_with (first
            | (at_builtin; refine wpList_append_own _ rfl _ _ 26 rfl w5.heap.size 3 i0 (I 0) 1 8 HU.out HI0.out HI1.out HI2.out HI3.out rfl (by decide) _ _ _ rfl HOQ2.out ⟨wr.heap.size, 0, none⟩ 1 1 [I k] rfl rfl HC3.out (by simp [Value.oneCell']) (by unfold maxLen; omega) (by omega) (by simp; omega) ?_; intro v' w6 hown' hgrow _; have hB6 : Below w5.heap.size w5 w6 := hB2'.grown hgrow hB2'.size (fun g e => (HOQ.out.lt g e).1); have HOQ6 : Hid (w6.ownsRow w5.heap.size 3 1 v' (q ++ [k]).length ((q ++ [k]).map fun k : Nat => I (k : Int))) := Lib.hid (by simpa using hown'); clear hown' hgrow)
            | fail)
          · go_roundw
            case rel => exact ⟨k + 1, q ++ [k], by omega, by go_num, Lib.hid (sorted_snoc HQ.out.1 HQ.out.2), HOQ6, hB6⟩
            case measure => first | (simp [intOf]; done) | (simp [intOf]; omega)
          · go_roundw
            case rel => exact ⟨k + 1, q, by omega, by go_num, Lib.hid ⟨HQ.out.1, fun j hj => by have := HQ.out.2 j hj; omega⟩, HOQ, hB⟩
            case measure => first | (simp [intOf]; done) | (simp [intOf]; omega)
        · obtain rfl : l.length = k := by omega
          have hql := sorted_len HQ.out.1 HQ.out.2
          obtain ⟨Aq, cq, hvq, hiq⟩ := nats_own HOQ.out
          subst hvq
          have HIQ := Lib.hid hiq
          have HBX := Lib.hid (HCE.out _ hWr2)
          have hBq := hB
          have hB26 := hB25
          clear hiq HOQ hB hzB hB25
          generalize wr = w6 at *
          obtain ⟨HPI6, _⟩ : ∃ _ : Hid (Ints w6 w6.heap.size Ap (p.map fun k : Nat => (k : Int))), True := ⟨Lib.hid (ints_of_own' (grown_own HPO.out (hB26.trans (hBq.mono hB26.size)))), trivial⟩
          have HPO6 := Lib.hid (grown_own HPO.out (hB26.trans (hBq.mono hB26.size)))
          clear HPO
          go_wp2_with (fail)
          go_loopw [141] (fun s wr => ∃ k : Nat, k ≤ p.length ∧ s = I k ∧ Below w6.heap.size w6 wr) (fun s _ => p.length - (intOf s).toNat)
          case atStart => exact ⟨0, Nat.zero_le _, rfl, Below.refl _ _⟩
          case round =>
            obtain ⟨k, hk, rfl, hB⟩ := hrel
            have hWr3 := hWr2.trans (hB.mono z6)
            obtain ⟨⟨y1, y2, y3⟩, _, _, _, _, y6⟩ := HCE.out _ hWr3
            by_cases hlt : k < p.length
            · obtain ⟨pb, po, hAe, hpz, hpc⟩ := (HPI6.out.below hB) (by simp; omega)
              subst hAe
              have x0 := hpc k (by simpa using hlt)
              simp only [List.getElem_map] at x0
              have hr := HPF.out.2 p[k] (List.getElem_mem hlt)
              have p2 : (0 : Int) ≤ (k : Int) := by omega
              have p3 : (k : Int) < (p.length : Int) := by omega
              have c1 : decide (((p[k] : Nat) : Int) < 0) = false := decide_eq_false (by omega)
              have c2 : decide ((l.length : Int) ≤ ((p[k] : Nat) : Int)) = false := decide_eq_false (by omega)
              rcases Nat.eq_zero_or_pos k with h0 | h0
              · have c4 : decide ((0 : Int) < (k : Int)) = false := decide_eq_false (by omega)
                have c4' : decide (0 < k) = false := decide_eq_false (by omega)
                clear hpc h0 hr
                generalize ((p[k] : Nat) : Int) = r at *
                go_wp2
                go_roundw
                case rel => exact ⟨k + 1, by omega, by go_num, hB⟩
                case measure => first | (simp [intOf]; done) | (simp [intOf]; omega)
              · obtain ⟨j, hj⟩ : ∃ j, k = j + 1 := ⟨k - 1, by omega⟩
                have hlt3 : j < p.length := by omega
                have x1 := hpc j (by simpa using hlt3)
                simp only [List.getElem_map] at x1
                have hlt2 : p[j]'hlt3 < p[k] := List.pairwise_iff_getElem.1 HPF.out.1 j k hlt3 hlt (by omega)
                have c3 : decide (((p[k] : Nat) : Int) ≤ ((p[j]'hlt3 : Nat) : Int)) = false := decide_eq_false (by omega)
                have c4 : decide ((0 : Int) < (k : Int)) = true := decide_eq_true (by omega)
                have c4' : decide (0 < k) = true := decide_eq_true (by omega)
                have c5 : IntKind.i64.wrap ((k : Int) - 1) = (j : Int) := by rw [show ((k : Int) - 1) = (j : Int) by omega]; exact IntWalk.i64_in _ (by omega)
                have p4 : (0 : Int) ≤ (j : Int) := by omega
                have p5 : (j : Int) < (p.length : Int) := by omega
                clear hpc hlt2 hj h0 hr
                generalize ((p[k] : Nat) : Int) = r at *
                generalize ((p[j]'hlt3 : Nat) : Int) = r' at *
                go_wp2
                go_roundw
                case rel => exact ⟨k + 1, by omega, by go_num, hB⟩
                case measure => first | (simp [intOf]; done) | (simp [intOf]; omega)
            · obtain rfl : p.length = k := by omega
              have HBX3 := Lib.hid (HCE.out _ hWr3)
              have HPI7 := Lib.hid ((HPI6.out.below hB).more hB.size)
              have HPO7 := Lib.hid (grown_own HPO6.out hB)
              have HIQ7 := Lib.hid ((HIQ.out.below hB).more hB.size)
              clear HPI6 HPO6 HIQ HBX
              generalize wr = w7 at *
              go_wp2_with (first
                | (go_at_call 30; refine (HS.out Ap p cp _ HBX3.out HPI7.out HPF.out.1 HPF.out.2).mono ?_; rw [HSP.out]; rintro e w8 ⟨rfl, hB8⟩; have hWr8 := hWr3.trans (hB8.mono y6); have HPI8 := Lib.hid ((HPI7.out.below hB8).more hB8.size); have HPO8 := Lib.hid (grown_own HPO7.out hB8); have HIQ8 := Lib.hid ((HIQ7.out.below hB8).more hB8.size); clear HPI7 HPO7 HIQ7)
                | fail)
              have HBX8 := Lib.hid (HCE.out _ hWr8)
              have t6 : w.heap.size + 3 ≤ w8.heap.size := HBX8.out.2.2.2.2.2
              go_loopw [178] (fun s wr => ∃ k : Nat, k ≤ p.length ∧ s = I k ∧ Below w8.heap.size w8 wr) (fun s _ => p.length - (intOf s).toNat)
              case atStart => exact ⟨0, Nat.zero_le _, rfl, Below.refl _ _⟩
              case round =>
                obtain ⟨k, hk, rfl, hB⟩ := hrel
                have hWr9 := hWr8.trans (hB.mono t6)
                have hzB := hB.size
                by_cases hlt : k < p.length
                · obtain ⟨pg, hAe, hcap1, hcap2, hpgz⟩ := own_capP HPO8.out (by omega)
                  have HP9 := Lib.hid ((HPI8.out.below hB).more hB.size)
                  subst hAe
                  have HBXw : Hid (∀ W, Below wr.heap.size wr W → BoxesP w A B c d m l mn W) := Lib.hid fun W hW => HCE.out W (hWr9.trans (hW.mono (by omega)))
                  have HFL : Hid (sb (dropK p k) = false) := Lib.hid (by
                    cases e : sb (dropK p k)
                    · rfl
                    · exact absurd (.inl (by rw [dropK_len hlt]; omega)) (HMIN.out _ (dropK_sorted HPF.out.1 hlt) (fun a ha => HPF.out.2 a (dropK_mem ha)) e))
                  have HSD : Hid (∀ A' c' W, Below wr.heap.size wr W → Ints W W.heap.size A' ((dropK p k).map fun k : Nat => (k : Int)) → Calls Tryd.prog 30 #[.slice A' (p.length - 1) c', .pointer (some ⟨w.heap.size, 0, none⟩), .pointer (some ⟨w.heap.size + 1, 0, none⟩), .pointer (some ⟨w.heap.size + 1 + 1, 0, none⟩)] W fun e w' => e = .returned (.bool false) ∧ Below W.heap.size W w') := Lib.hid fun A' c' W hW hI => by
                    have := HS.out A' (dropK p k) c' W (HBXw.out W hW) hI (dropK_sorted HPF.out.1 hlt) (fun a ha => HPF.out.2 a (dropK_mem ha))
                    rwa [HFL.out, dropK_len hlt] at this
                  obtain ⟨o2, ho2⟩ : ∃ o2 : Option Addr, (if cp = k + 1 then some (⟨pg, 0, none⟩ : Addr) else some ⟨pg, k + 1, none⟩) = o2 := ⟨_, rfl⟩
                  have HDR : Hid (∀ W, Below wr.heap.size wr W → Ints W W.heap.size o2 ((p.drop (k + 1)).map fun k : Nat => (k : Int))) := Lib.hid fun W hW => by
                    have h1 := drop_if (j := k) (rc := cp) (len := p.length) ((HP9.out.below hW).more hW.size) ⟨by simp, hcap1⟩
                    rw [Nat.zero_add, ho2, ← List.map_drop] at h1
                    exact h1
                  have HTK : Hid (∀ W, Below wr.heap.size wr W → Ints W W.heap.size (some ⟨pg, 0, none⟩) ((p.take k).map fun k : Nat => (k : Int))) := Lib.hid fun W hW => by
                    have h1 := ((HP9.out.below hW).more hW.size).take k
                    rw [← List.map_take] at h1
                    exact h1
                  have HL1 : Hid (((p.take k).map fun k : Nat => (k : Int)).length = k) := Lib.hid (by simp; omega)
                  have HL2 : Hid (((p.drop (k + 1)).map fun k : Nat => (k : Int)).length = p.length - (k + 1)) := Lib.hid (by simp)
                  have HDM := Lib.hid (dropK_map p k)
                  have a0 : (0 : Int) ≤ (k : Int) := by omega
                  have a1 : (k : Int) < (p.length : Int) := by omega
                  have a2 : (k : Int) ≤ (cp : Int) := by omega
                  have a3 : (0 : Int) ≤ (k : Int) + 1 := by omega
                  have a4 : (k : Int) + 1 ≤ (p.length : Int) := by omega
                  have a5 : (p.length : Int) ≤ (cp : Int) := by omega
                  have hadd : IntKind.i64.wrap ((k : Int) + 1) = (k : Int) + 1 := IntWalk.i64_in _ (by omega)
                  go_wp2_with (fail)
                  refine (wpIn_wide (n := 9)).1 ?_
                  refine wpIn_region_opsU tLast [some 181, some 182, some 183, some 184, some 185, some 186, some 187, some 188, some 189, some 190, some 191, some 192] (tV (.func (.func 30) #[] #[.pointer (some ⟨w.heap.size, 0, none⟩), .pointer (some ⟨w.heap.size + 1, 0, none⟩), .pointer (some ⟨w.heap.size + 1 + 1, 0, none⟩)]) o2 pg cp p k wr.heap.size) (fun j W W' => Below (if j = 10 then wr.heap.size else W.heap.size) W W') (fun W => Below wr.heap.size wr W) rfl (by kernel_rfl) (by kernel_rfl) (by kernel_rfl) (fun _ d _ _ _ h => by cases d <;> exact h) (Below.refl _ _).drew
                    (fun j W W' h hG => by
                      by_cases e : j = 10
                      · rw [if_pos e] at hG; exact h.trans hG
                      · rw [if_neg e] at hG; exact h.trans (hG.mono h.size)) (fun i j v W W' hij hlj _ h hG => tV_stab _ _ _ _ _ _ _ i j v W W' hij hlj h hG) ?_ ?_
                  · refine ⟨?_, ?_, ?_, ?_, ?_, ?_, ?_, ?_, ?_, ?_, ?_, ?_, trivial⟩
                    · (intro val W hC hd K hK; have HC := Lib.hid hC; have HD := Lib.hid hd; have HK := Lib.hid hK; clear hC hd hK; simp only [putD, Act.put, List.setIfInBounds_toArray, List.set_cons_succ, List.set_cons_zero, Nat.zero_add, Nat.reduceAdd] at HK ⊢)
                      gi_wp2
                      exact HK.out _ _ (Below.refl _ _) rfl
                    · (intro val W hC hd K hK; have HC := Lib.hid hC; have HD := Lib.hid hd; have HK := Lib.hid hK; clear hC hd hK; simp only [putD, Act.put, List.setIfInBounds_toArray, List.set_cons_succ, List.set_cons_zero, Nat.zero_add, Nat.reduceAdd] at HK ⊢)
                      gi_wp2
                      exact HK.out _ _ ((Below.refl _ _).alloc (Nat.le_refl _) _) ⟨_, rfl⟩
                    · (intro val W hC hd K hK; have HC := Lib.hid hC; have HD := Lib.hid hd; have HK := Lib.hid hK; clear hC hd hK; simp only [putD, Act.put, List.setIfInBounds_toArray, List.set_cons_succ, List.set_cons_zero, Nat.zero_add, Nat.reduceAdd] at HK ⊢)
                      gi_wp2
                      exact HK.out _ _ (Below.refl _ _) rfl
                    · (intro val W hC hd K hK; have HC := Lib.hid hC; have HD := Lib.hid hd; have HK := Lib.hid hK; clear hC hd hK; simp only [putD, Act.put, List.setIfInBounds_toArray, List.set_cons_succ, List.set_cons_zero, Nat.zero_add, Nat.reduceAdd] at HK ⊢)
                      gi_wp2
                      exact HK.out _ _ (Below.refl _ _) rfl
                    · (intro val W hC hd K hK; have HC := Lib.hid hC; have HD := Lib.hid hd; have HK := Lib.hid hK; clear hC hd hK; simp only [putD, Act.put, List.setIfInBounds_toArray, List.set_cons_succ, List.set_cons_zero, Nat.zero_add, Nat.reduceAdd] at HK ⊢)
                      have e1 : val 2 = .slice (some ⟨pg, 0, none⟩) p.length cp := HD.out.1 (.inl rfl)
                      have e2 : val 3 = I k := HD.out.2.1 (.inl rfl)
                      rw [e1, e2] at HK ⊢
                      gi_wp2
                      exact HK.out _ _ (Below.refl _ _) rfl
                    · (intro val W hC hd K hK; have HC := Lib.hid hC; have HD := Lib.hid hd; have HK := Lib.hid hK; clear hC hd hK; simp only [putD, Act.put, List.setIfInBounds_toArray, List.set_cons_succ, List.set_cons_zero, Nat.zero_add, Nat.reduceAdd] at HK ⊢)
                      obtain ⟨g1, e1⟩ := HD.out.1 (.inl rfl)
                      have e2 : val 4 = .slice (some ⟨pg, 0, none⟩) k cp := HD.out.2.1 (.inl rfl)
                      rw [e1, e2] at HK ⊢
                      have HTW := Lib.hid (ints_at (HTK.out W HC.out))
                      have HZ := Lib.hid HC.out.size
                      clear e1 e2 HD
                      refine opIn_append_lit rfl W _ _ 26 rfl 3 i0 (I 0) 1 8 HU.out HI0.out HI1.out HI2.out HI3.out rfl (by decide) ⟨g1, 0, none⟩ rfl (some ⟨pg, 0, none⟩) k cp (((p.take k).map fun k : Nat => (k : Int)).map I) rfl (by rw [List.length_map, HL1.out, Nat.mul_one]) (fun h0 => HTW.out (by rw [HL1.out]; exact h0)) (by unfold maxLen; omega) (by omega) ?_
                      intro v' w' hown hgrow
                      exact HK.out _ _ (grown_below hgrow (Nat.le_refl _) (by simp)) (hown.imp (fun h => own_base h HZ.out) (fun h => ⟨h.1, g1, h.2⟩))
                    · (intro val W hC hd K hK; have HC := Lib.hid hC; have HD := Lib.hid hd; have HK := Lib.hid hK; clear hC hd hK; simp only [putD, Act.put, List.setIfInBounds_toArray, List.set_cons_succ, List.set_cons_zero, Nat.zero_add, Nat.reduceAdd] at HK ⊢)
                      gi_wp2
                      exact HK.out _ _ (Below.refl _ _) rfl
                    · (intro val W hC hd K hK; have HC := Lib.hid hC; have HD := Lib.hid hd; have HK := Lib.hid hK; clear hC hd hK; simp only [putD, Act.put, List.setIfInBounds_toArray, List.set_cons_succ, List.set_cons_zero, Nat.zero_add, Nat.reduceAdd] at HK ⊢)
                      gi_wp2
                      exact HK.out _ _ (Below.refl _ _) rfl
                    · (intro val W hC hd K hK; have HC := Lib.hid hC; have HD := Lib.hid hd; have HK := Lib.hid hK; clear hC hd hK; simp only [putD, Act.put, List.setIfInBounds_toArray, List.set_cons_succ, List.set_cons_zero, Nat.zero_add, Nat.reduceAdd] at HK ⊢)
                      have e1 : val 7 = I k := HD.out.1 (.inl rfl)
                      rw [e1] at HK ⊢
                      gi_wp2
                      exact HK.out _ _ (Below.refl _ _) rfl
                    · (intro val W hC hd K hK; have HC := Lib.hid hC; have HD := Lib.hid hd; have HK := Lib.hid hK; clear hC hd hK; simp only [putD, Act.put, List.setIfInBounds_toArray, List.set_cons_succ, List.set_cons_zero, Nat.zero_add, Nat.reduceAdd] at HK ⊢)
                      have e1 : val 6 = .slice (some ⟨pg, 0, none⟩) p.length cp := HD.out.1 (.inl rfl)
                      have e2 : val 8 = I ((k : Int) + 1) := HD.out.2.1 (.inl rfl)
                      rw [e1, e2] at HK ⊢
                      gi_wp2
                      exact HK.out _ _ (Below.refl _ _) rfl
                    · (intro val W hC hd K hK; have HC := Lib.hid hC; have HD := Lib.hid hd; have HK := Lib.hid hK; clear hC hd hK; simp only [putD, Act.put, List.setIfInBounds_toArray, List.set_cons_succ, List.set_cons_zero, Nat.zero_add, Nat.reduceAdd] at HK ⊢)
                      have h5 : W.ownsRow wr.heap.size 3 1 (val 5) k (((p.take k).map fun k : Nat => (k : Int)).map I) ∨ (k = 0 ∧ ∃ g, val 5 = .slice (some ⟨g, 0, none⟩) 0 0) := HD.out.1 (.inr rfl)
                      have e9 : val 9 = .slice o2 (p.length - (k + 1)) (cp - (k + 1)) := HD.out.2.1 (.inl rfl)
                      have HTW := Lib.hid (ints_at (HDR.out W HC.out))
                      have HZ := Lib.hid HC.out.size
                      rcases h5 with h5 | ⟨hk0, g5, e5⟩
                      · generalize val 5 = v5 at *
                        rw [e9] at HK ⊢
                        have H5 := Lib.hid h5
                        clear e9 HD h5
                        refine opIn_append_any rfl W _ _ 26 rfl wr.heap.size 3 i0 (I 0) 1 8 HU.out HI0.out HI1.out HI2.out HI3.out rfl (by decide) v5 k (((p.take k).map fun k : Nat => (k : Int)).map I) rfl H5.out o2 (p.length - (k + 1)) (cp - (k + 1)) (((p.drop (k + 1)).map fun k : Nat => (k : Int)).map I) rfl (by rw [List.length_map, HL2.out, Nat.mul_one]) (fun h0 => HTW.out (by rw [HL2.out]; exact h0)) (fun u hu => by obtain ⟨a, _, rfl⟩ := List.mem_map.1 hu; rfl) (by unfold maxLen; omega) (by omega) HZ.out ?_
                        intro v' w' hown hgrow
                        refine HK.out _ _ (grown_below hgrow HZ.out (fun k hk => (H5.out.lt k hk).1)) ?_
                        rw [← List.map_append, ← HDM.out] at hown
                        obtain ⟨A', c', e', hi'⟩ := ints_ownN hown (by rw [List.length_map, dropK_len hlt]; omega)
                        exact ⟨A', c', by rw [e', List.length_map, dropK_len hlt], hi'⟩
                      · rw [e5, e9] at HK ⊢
                        have HK0 := Lib.hid hk0
                        clear e5 e9 HD hk0
                        refine opIn_append_lit rfl W _ _ 26 rfl 3 i0 (I 0) 1 8 HU.out HI0.out HI1.out HI2.out HI3.out rfl (by decide) ⟨g5, 0, none⟩ rfl o2 (p.length - (k + 1)) (cp - (k + 1)) (((p.drop (k + 1)).map fun k : Nat => (k : Int)).map I) rfl (by rw [List.length_map, HL2.out, Nat.mul_one]) (fun h0 => HTW.out (by rw [HL2.out]; exact h0)) (by unfold maxLen; omega) (by omega) ?_
                        intro v' w' hown hgrow
                        refine HK.out _ _ (grown_below hgrow HZ.out (fun k hk => by cases hk)) ?_
                        obtain ⟨A', c', e', hi'⟩ := ints_litP HL2.out hown
                        refine ⟨A', c', by rw [e', HK0.out], ?_⟩
                        rw [HDM.out, HK0.out]
                        rw [HK0.out] at hi'
                        simpa using hi'
                    · (intro val W hC hd K hK; have HC := Lib.hid hC; have HD := Lib.hid hd; have HK := Lib.hid hK; clear hC hd hK; simp only [putD, Act.put, List.setIfInBounds_toArray, List.set_cons_succ, List.set_cons_zero, Nat.zero_add, Nat.reduceAdd] at HK ⊢)
                      have e0 : val 0 = .func (.func 30) #[] #[.pointer (some ⟨w.heap.size, 0, none⟩), .pointer (some ⟨w.heap.size + 1, 0, none⟩), .pointer (some ⟨w.heap.size + 1 + 1, 0, none⟩)] := HD.out.1 (.inl rfl)
                      obtain ⟨A10, c10, e10, h10⟩ : ∃ (A : Option Addr) (c : Nat), val 10 = .slice A (p.length - 1) c ∧ Ints W W.heap.size A ((dropK p k).map fun k : Nat => (k : Int)) := HD.out.2.1 (.inl rfl)
                      rw [e0, e10] at HK ⊢
                      have HT := Lib.hid h10
                      clear e0 h10 e10 HD
                      gi_wp2_with (refine And.intro trivial ?_; gi_at_call 30; refine callsIn_wide.2 ((HSD.out _ _ W HC.out HT.out).mono ?_); rintro e w10 ⟨rfl, hB10⟩)
                      exact HK.out _ _ hB10 rfl
                  · intro val W hC hd
                    have e11 : val 11 = .bool false := hd.2.2.2.2.2.2.2.2.2.2.2.1 rfl
                    simp only [putD, Act.put, List.setIfInBounds_toArray, List.set_cons_succ, List.set_cons_zero, Nat.zero_add, Nat.reduceAdd]
                    rw [e11]
                    have hBn : Below w8.heap.size w8 W := hB.trans (hC.mono hzB)
                    clear hd e11 hC
                    go_wp2
                    go_roundw
                    case rel => exact ⟨k + 1, by omega, by go_num, hBn⟩
                    case measure => first | (simp [intOf]; done) | (simp [intOf]; omega)
                · obtain rfl : p.length = k := by omega
                  have HBX9 := Lib.hid (HCE.out _ hWr9)
                  have HPI9 := Lib.hid ((HPI8.out.below hB).more hB.size)
                  have HIQ9 := Lib.hid ((HIQ8.out.below hB).more hB.size)
                  have t9 : w.heap.size + 3 ≤ wr.heap.size := HBX9.out.2.2.2.2.2
                  clear HPI8 HPO8 HIQ8 HBX8
                  generalize wr = w9 at *
                  cases hsq : sb q
                  · have HSQ := Lib.hid hsq
                    clear hsq
                    go_wp2_with (first
                      | (go_at_call 30; refine (HS.out Aq q cq _ HBX9.out HIQ9.out HQ.out.1 HQ.out.2).mono ?_; rw [HSQ.out]; rintro e w10 ⟨rfl, hB10⟩; have hWr10 := hWr9.trans (hB10.mono t9); obtain ⟨_, _, _, y4, y5, _⟩ := HCE.out _ hWr10; have HT10 := Lib.hid y4; clear y4)
                      | (go_at_call 12; refine (HA.out _ HT10.out).mono ?_; rintro e w11 ⟨rfl, hB11⟩)
                      | fail)
                    go_ret
                    exact ⟨rfl, y5.trans (hB11.mono y5.size)⟩
                  · have HSQ := Lib.hid hsq
                    have hna := HMIN.out q HQ.out.1 HQ.out.2 hsq
                    have hge : p.length ≤ q.length := by
                      rcases Nat.lt_or_ge q.length p.length with h | h
                      · exact absurd (.inl h) hna
                      · exact h
                    have HNL : Hid (q.length = p.length → ¬ q < p) := Lib.hid fun h1 h2 => hna (.inr ⟨h1, h2⟩)
                    have r1 : decide ((q.length : Int) < (p.length : Int)) = false := decide_eq_false (by omega)
                    have r2 : decide (q.length < p.length) = false := decide_eq_false (by omega)
                    clear hsq hna
                    go_wp2_with (first
                      | (go_at_call 30; refine (HS.out Aq q cq _ HBX9.out HIQ9.out HQ.out.1 HQ.out.2).mono ?_; rw [HSQ.out]; rintro e w10 ⟨rfl, hB10⟩; have hWr10 := hWr9.trans (hB10.mono t9); have HBX10 := Lib.hid (HCE.out _ hWr10); have HPI10 := Lib.hid ((HPI9.out.below hB10).more hB10.size); have HIQ10 := Lib.hid ((HIQ9.out.below hB10).more hB10.size); have t10 : w.heap.size + 3 ≤ w10.heap.size := HBX10.out.2.2.2.2.2; clear HPI9 HIQ9 HBX9)
                      | fail)
                    clear r1 r2
                    go_loopw [206] (fun s wr => ∃ k : Nat, k ≤ q.length ∧ s = I k ∧ Below w10.heap.size w10 wr ∧ Hid (q.length = p.length → ∀ j (h : j < q.length) (h' : j < p.length), j < k → q[j] = p[j])) (fun s _ => q.length - (intOf s).toNat)
                    case atStart => exact ⟨0, Nat.zero_le _, rfl, Below.refl _ _, Lib.hid fun _ j _ _ h => by omega⟩
                    case round =>
                      obtain ⟨k, hk, rfl, hB, HPRE⟩ := hrel
                      have hzB := hB.size
                      have hWr11 := hWr10.trans (hB.mono t10)
                      by_cases hlt : k < q.length
                      · by_cases hlen : q.length = p.length
                        · have hltp : k < p.length := by omega
                          have l1 : ((q.length : Int) == (p.length : Int)) = true := by simp; omega
                          have l2 : (q.length == p.length) = true := by simpa using hlen
                          obtain ⟨qb, qo, hQe, hqz, hqc⟩ := (HIQ10.out.below hB) (by simpa using (by omega : 0 < q.length))
                          obtain ⟨pb, po, hPe, hpz, hpc⟩ := (HPI10.out.below hB) (by simpa using (by omega : 0 < p.length))
                          subst hQe hPe
                          have x0 := hqc k (by simpa using hlt)
                          have y0 := hpc k (by simpa using hltp)
                          simp only [List.getElem_map] at x0 y0
                          have HST : Hid (q[k] = p[k] → (q.length = p.length → ∀ j (h : j < q.length) (h' : j < p.length), j < k + 1 → q[j] = p[j])) := Lib.hid fun e h0 j h h' hj => by
                            rcases Nat.lt_succ_iff_lt_or_eq.1 hj with h1 | rfl
                            · exact HPRE.out h0 j h h' h1
                            · exact e
                          have HGT : Hid (q[k] ≠ p[k] → p[k] < q[k]) := Lib.hid fun e => lex_gt hlen hlt (fun j h hj => HPRE.out hlen j h (by omega) hj) e (HNL.out hlen)
                          have HEQ : Hid (((q[k] : Nat) : Int) = ((p[k] : Nat) : Int) → q[k] = p[k]) := Lib.hid fun e => by omega
                          have HLEN := Lib.hid hlen
                          have HCX : Hid (∀ W, Below wr.heap.size wr W → W.cell? ⟨qb, qo + k, none⟩ = some (I (q[k] : Nat)) ∧ W.cell? ⟨pb, po + k, none⟩ = some (I (p[k] : Nat)) ∧ TabOk W ∧ Below w.heap.size w W ∧ wr.heap.size ≤ W.heap.size) := Lib.hid fun W hW => by
                            obtain ⟨_, _, _, y4, y5, _⟩ := HCE.out W (hWr11.trans (hW.mono (by omega)))
                            exact ⟨(hW.cell (p := ⟨qb, qo + k, none⟩) (Nat.lt_of_lt_of_le hqz hzB)).trans x0, (hW.cell (p := ⟨pb, po + k, none⟩) (Nat.lt_of_lt_of_le hpz hzB)).trans y0, y4, y5, hW.size⟩
                          have HGI : Hid (¬ ((q[k] : Nat) : Int) = ((p[k] : Nat) : Int) → ((p[k] : Nat) : Int) < ((q[k] : Nat) : Int)) := Lib.hid fun e => by
                            have := HGT.out (fun h => e (by rw [h]))
                            omega
                          have p2 : (0 : Int) ≤ (k : Int) := by omega
                          have p3 : (k : Int) < (q.length : Int) := by omega
                          have p4 : (k : Int) < (p.length : Int) := by omega
                          clear hqc hpc hlen hge
                          obtain ⟨ua, hua⟩ : ∃ u : Int, ((q[k] : Nat) : Int) = u := ⟨_, rfl⟩
                          obtain ⟨ub, hub⟩ : ∃ u : Int, ((p[k] : Nat) : Int) = u := ⟨_, rfl⟩
                          rw [hua] at x0
                          rw [hub] at y0
                          rw [hua, hub] at HCX HGI HEQ
                          clear hua hub
                          by_cases he : ua = ub
                          · have heb : (ua != ub) = false := by simpa using he
                            have HE := Lib.hid (HEQ.out he)
                            subst he
                            go_wp2_with (fail)
                            go_quiet (fail)
                            go_wp2
                            go_roundw
                            case rel => exact ⟨k + 1, by omega, by go_num, below_drewN hB _, Lib.hid (HST.out HE.out)⟩
                            case measure => first | (simp [intOf]; done) | (simp [intOf]; omega)
                          · have heb : (ua != ub) = true := by simpa using he
                            have hgt : decide (ub < ua) = true := decide_eq_true (HGI.out he)
                            clear he
                            go_wp2_with (fail)
                            go_quiet (fail)
                            have HCX0 : Hid (Below wr.heap.size wr (wr.drewN nq)) := Lib.hid (below_drewN (Below.refl _ _) nq)
                            generalize wr.drewN nq = wz at *
                            go_wp2_with (fail)
                            refine (wpIn_wide (n := 9)).1 ?_
                            refine wpIn_region_valsG [some 225, some 226, some 227, some 228, some 229, some 230, some 231, some 232, some 233, some 234, some 235, some 236, some 8]
                              (nthV [.slice (some ⟨qb, qo, none⟩) q.length cq, I k, .pointer (some ⟨qb, qo + k, none⟩), I ua, .slice (some ⟨pb, po, none⟩) p.length cp, I k, .pointer (some ⟨pb, po + k, none⟩), I ub, .bool true, .bool true, .bool true, .bool true, .bool true])
                              (fun W => Below wr.heap.size wr W) rfl (by kernel_rfl) (by kernel_rfl) (by kernel_rfl) (fun _ d _ _ _ h => by cases d <;> exact h) HCX0.out.drew ?_ ?_
                            · refine ⟨?_, ?_, ?_, ?_, ?_, ?_, ?_, ?_, ?_, ?_, ?_, ?_, ?_, trivial⟩
                              all_goals ((intro x W hC K hK; have HK := Lib.hid hK; have HC := Lib.hid hC; clear hC hK; simp only [putD, nthV, Act.put, List.setIfInBounds_toArray, List.set_cons_succ, List.set_cons_zero, Nat.zero_add, Nat.reduceAdd, Nat.reduceEqDiff, reduceIte , Nat.succ_ne_zero, Nat.zero_ne_one, Nat.one_ne_zero] at HK ⊢); obtain ⟨n0, n1, n2, _, hzW⟩ := HCX.out _ HC.out; have HTB := Lib.hid n2; clear n2; refine ⟨rfl, ?_⟩)
                              all_goals first
                                | (refine op_li rfl ?_; go_simp; exact HK.out _ HC.out)
                                | (gi_wp2_with (refine And.intro trivial ?_; gi_at_call 12; refine callsIn_wide.2 ((HA.out _ HTB.out).mono ?_); rintro e w12 ⟨rfl, hB12⟩)
                                   exact HK.out _ (HC.out.trans (hB12.mono hzW)))
                            · (intro W hC; have HC := Lib.hid hC; clear hC; simp only [putD, nthV, Act.put, List.setIfInBounds_toArray, List.set_cons_succ, List.set_cons_zero, Nat.zero_add, Nat.reduceAdd])
                              go_wp2
                              go_ret
                              exact ⟨rfl, (HCX.out _ HC.out).2.2.2.1⟩
                        · have l1 : ((q.length : Int) == (p.length : Int)) = false := by simp; omega
                          have l2 : (q.length == p.length) = false := by simpa using hlen
                          have HLEN := Lib.hid hlen
                          clear hlen hge
                          go_wp2_with (fail)
                          go_quiet (fail)
                          go_wp2
                          go_roundw
                          case rel => exact ⟨k + 1, by omega, by go_num, below_drewN hB _, Lib.hid fun h => absurd h HLEN.out⟩
                          case measure => first | (simp [intOf]; done) | (simp [intOf]; omega)
                      · obtain rfl : q.length = k := by omega
                        obtain ⟨_, _, _, y4, y5, _⟩ := HCE.out _ hWr11
                        have HT11 := Lib.hid y4
                        clear y4
                        go_wp2_with (first
                          | (go_at_call 12; refine (HA.out _ HT11.out).mono ?_; rintro e w12 ⟨rfl, hB12⟩)
                          | fail)
                        go_ret
                        exact ⟨rfl, y5.trans (hB12.mono y5.size)⟩
end Go.Proofs.YtgdilbilhajgaaaDoor
