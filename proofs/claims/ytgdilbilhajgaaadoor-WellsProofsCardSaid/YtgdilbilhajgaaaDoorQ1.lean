/- Some of the readings, and whether by them alone a main surely gives too much. -/
import Derived.Test.YtgdilbilhajgaaaDoorD1
namespace Go.Proofs.YtgdilbilhajgaaaDoor
set_option linter.unusedVariables false
set_option linter.unusedSimpArgs false
open Go Go.RowKit

section
variable {m : List (Int × Int)} {l : List (Int × Int × Int)} {q : List Nat} {mn : Nat}
theorem sure_mono (hq : ∀ k ∈ q, k < l.length) (h : SureP m l mn q) : SureP m l mn (List.range l.length) := fun x hx => h x (feas_some hq (by rwa [some_all] at hx))
theorem some_ok (hok : InOk m l) (hq : ∀ k ∈ q, k < l.length) (hl : q.length ≤ l.length) : InOk m (someL l q) := by
  refine ⟨hok.1, by simp [someL]; have := hok.2.1; omega, fun k hk => ?_⟩
  have hr : (someL l q)[k] ∈ l := mem_someL hq (List.getElem_mem hk)
  obtain ⟨j, hj, e⟩ := List.mem_iff_getElem.1 hr
  rw [← e]
  exact hok.2.2 j hj
theorem mem_surely {d : Nat → Int × Int} (hmn : mn < m.length) : (mn : Int) ∈ surelyL m d ↔ limW m mn < (d mn).1 := by
  unfold surelyL ovL
  simp only [List.mem_map, List.mem_filter, List.mem_range, decide_eq_true_eq]
  constructor
  · rintro ⟨a, ⟨_, h⟩, e⟩
    obtain rfl : a = mn := by omega
    exact h
  · exact fun h => ⟨mn, ⟨hmn, h⟩, rfl⟩
theorem surely_sure (hmn : mn < m.length) {d : Nat → Int × Int} (h : IsSpans m (someL l q) d) : (mn : Int) ∈ surelyL m d ↔ SureP m l mn q := by
  rw [mem_surely hmn]
  exact sure_spans h hmn (limW m mn)
end
open Classical in
/-- What Over answers by some of the readings. -/
theorem over_some (A B : Option Addr) (c d : Nat) (m : List (Int × Int)) (l : List (Int × Int × Int)) (q : List Nat) (mn : Nat) (w : World) (hm : Pairs w w.heap.size A m) (hb : Threes w w.heap.size B (someL l q)) (hok : InOk m l) (hq : ∀ k ∈ q, k < l.length) (hql : q.length ≤ l.length) (hmn : mn < m.length) (hf : ∃ x, Feas m l x) :
    Calls Tryd.prog 23 #[.slice A m.length c, .slice B q.length d] w fun e w' => ∃ x A1 c1 v2, e = .returned (.tuple #[.slice A1 x.length c1, v2, I 0]) ∧ Ints w' w'.heap.size A1 x ∧ x.length ≤ 100 ∧ (decide ((mn : Int) ∈ x) = decide (SureP m l mn q)) ∧ Below w.heap.size w w' := by
  have hl : (someL l q).length = q.length := by simp [someL]
  have h23 := over23 A B c d m (someL l q) w hm (by have := hok.1.le; omega) hb (by have := hok.2.1; omega)
  rw [hl] at h23
  refine h23.mono ?_
  have hok2 := some_ok hok hq hql
  rintro e w' ⟨hB, ⟨h, _⟩ | ⟨_, h, _⟩ | ⟨_, v1, v2, dd, rfl, o1, o2, _, hsp⟩⟩
  · exact absurd hok2 h
  · obtain ⟨x, hx⟩ := hf
    exact absurd ⟨x, feas_some hq hx⟩ h
  · obtain ⟨A1, c1, rfl, i1⟩ := ints_ownN o1 rfl
    have h3 := surelyL_le m dd
    have := hok.1.le
    exact ⟨_, A1, c1, v2, rfl, i1, by omega, by simp only [surely_sure hmn hsp], hB⟩
set_option maxRecDepth 100000 in
set_option maxHeartbeats 4000000 in
theorem some31 (B Q : Option Addr) (cb cq : Nat) (l : List (Int × Int × Int)) (q : List Nat) (w : World) (hl : Threes w w.heap.size B l) (hll : l.length ≤ 9223372036854775807) (hQ : Ints w w.heap.size Q (q.map fun k : Nat => (k : Int))) (hq : ∀ k ∈ q, k < l.length) (hql : q.length ≤ 1000) :
    Calls Tryd.prog 31 #[.slice B l.length cb, .slice Q q.length cq] w fun e w' => ∃ A c, e = .returned (.slice A q.length c) ∧ Threes w' w'.heap.size A (someL l q) ∧ Below w.heap.size w w' := by
  have HL := Lib.hid hl
  have HQ := Lib.hid hQ
  have HQL := Lib.hid hq
  obtain ⟨i0, hi0, hi1, hi2, hi3⟩ := info_parts info42
  have hu : Tryd.prog.underlying 23 = some (.slice 42) := Tryd.underlying23
  have HU := Lib.hid hu; have HI0 := Lib.hid hi0; have HI1 := Lib.hid hi1; have HI2 := Lib.hid hi2; have HI3 := Lib.hid hi3
  clear hu hi0 hi1 hi2 hi3 hl hQ hq
  go_enter Tryd.func31, Tryd.ntmps31
  go_wp2_with (fail)
  go_loopw [5, 6] (fun s5 s6 wr => ∃ k : Nat, k ≤ q.length ∧ s6 = I k ∧ Below w.heap.size w wr ∧ Hid (wr.ownsRow w.heap.size 42 3 s5 k (flat3 (someL l (q.take k))))) (fun _ s _ => q.length - (intOf s).toNat)
  case atStart => exact ⟨0, Nat.zero_le _, rfl, Below.refl _ _, Lib.hid (by simpa [someL, flat3] using World.ownsRow_nil w w.heap.size 42 3)⟩
  case round =>
    obtain ⟨k, hk, rfl, hB, HO⟩ := hrel
    have hz := hB.size
    by_cases hlt : k < q.length
    · obtain ⟨qb, qo, hQe, hqz, hqc⟩ := (HQ.out.below hB) (by simpa using (by omega : 0 < q.length))
      subst hQe
      have hqk := hqc k (by simpa using hlt)
      simp only [List.getElem_map] at hqk
      have hlk := HQL.out q[k] (List.getElem_mem hlt)
      obtain ⟨b, o, hBe, hbz, hcs⟩ := (HL.out.below hB) (by omega)
      subst hBe
      obtain ⟨x0, x1, x2⟩ := hcs q[k] hlk
      have HN : Hid (flat3 (someL l (q.take (k + 1))) = flat3 (someL l (q.take k)) ++ [I l[q[k]].1, I l[q[k]].2.1, I l[q[k]].2.2]) := Lib.hid (by
        rw [List.take_succ_eq_append_getElem hlt]
        unfold someL
        rw [List.map_append, List.map_singleton, flat3_snoc]
        simp [List.getD, hlk])
      generalize l[q[k]] = r at *
      obtain ⟨r0, r1, r2⟩ := r
      generalize q[k] = j at *
      simp only at x0 x1 x2 HN
      have p0 : (0 : Int) ≤ (j : Int) := by omega
      have p1 : (j : Int) < (l.length : Int) := by omega
      have p2 : (0 : Int) ≤ (k : Int) := by omega
      have p3 : (k : Int) < (q.length : Int) := by omega
      have hB2 : Below w.heap.size w (wr.alloc (.cells #[I r0, I r1, I r2] 42)) := hB.alloc hz _
      have HO2 := Lib.hid (HO.out.alloc (.cells #[I r0, I r1, I r2] 42))
      have HC2 := Lib.hid (cells3 wr (I r0) (I r1) (I r2) 42)
      clear hqc hcs
      go_wp2_with (first
        | (at_builtin; refine wpList_append_own _ rfl _ _ 23 rfl w.heap.size 42 i0 (.agg #[I 0, I 0, I 0]) 3 24 HU.out HI0.out HI1.out HI2.out HI3.out rfl (by decide) _ _ _ rfl HO2.out ⟨wr.heap.size, 0, none⟩ 1 1 [I r0, I r1, I r2] rfl rfl HC2.out (by simp [Value.oneCell']) (by unfold maxLen; omega) (by omega) (by simp; omega) ?_; intro v' w2 hown' hgrow _; have HO1 : Hid (w2.ownsRow w.heap.size 42 3 v' (k + 1) (flat3 (someL l (q.take (k + 1))))) := Lib.hid (by rw [HN.out]; exact hown'); have hB3 : Below w.heap.size w w2 := hB2.grown hgrow hB2.size (fun g e => (HO.out.lt g e).1); clear hown' hgrow)
        | fail)
      go_roundw
      case rel => exact ⟨k + 1, by omega, by go_num, hB3, HO1⟩
      case measure => first | (simp [intOf]; done) | (simp [intOf]; omega)
    · obtain rfl : q.length = k := by omega
      have hown := HO.out
      rw [List.take_length] at hown
      obtain ⟨A1, c1, hv, ht⟩ := threes_own (by simp [someL]) hown
      subst hv
      have HT := Lib.hid ht
      clear hown ht HO
      go_wp2
      go_ret
      exact ⟨A1, c1, rfl, HT.out, hB⟩

/-- What each operation of the closure's first region yields. -/
def sV (av bv : Value) (Q : Option Addr) (cq : Nat) (l : List (Int × Int × Int)) (q : List Nat) (P : List Int → Prop) : Nat → Value → World → Prop
  | 0, v, _ => v = av
  | 1, v, _ => v = bv
  | 2, v, _ => v = .slice Q q.length cq
  | 3, v, W => ∃ A c, v = .slice A q.length c ∧ Threes W W.heap.size A (someL l q)
  | 4, v, W => ∃ x A c v2, v = .tuple #[.slice A x.length c, v2, I 0] ∧ Ints W W.heap.size A x ∧ x.length ≤ 100 ∧ P x
  | 5, v, W => ∃ x A c v2, v = .tuple #[.slice A x.length c, v2, I 0] ∧ Ints W W.heap.size A x ∧ x.length ≤ 100 ∧ P x
  | 6, v, W => ∃ x A c, v = .slice A x.length c ∧ Ints W W.heap.size A x ∧ x.length ≤ 100 ∧ P x
  | 8, v, _ => v = I 0
  | 9, v, W => ∃ x A c, v = .slice A x.length c ∧ Ints W W.heap.size A x ∧ x.length ≤ 100 ∧ P x
  | 11, v, _ => v = I 0
  | _, _, _ => True
theorem sV_stab (av bv : Value) (Q : Option Addr) (cq : Nat) (l : List (Int × Int × Int)) (q : List Nat) (P : List Int → Prop) (i : Nat) (v : Value) (W W' : World) (h : sV av bv Q cq l q P i v W) (hB : Below W.heap.size W W') : sV av bv Q cq l q P i v W' := by
  rcases i with _ | _ | _ | _ | _ | _ | _ | _ | _ | _ | _ | _ | i
  case succ.succ.succ.zero => obtain ⟨A, c, h1, h2⟩ := h; exact ⟨A, c, h1, (h2.below hB).more hB.size⟩
  case succ.succ.succ.succ.zero => obtain ⟨x, A, c, v2, h1, h2, h3⟩ := h; exact ⟨x, A, c, v2, h1, (h2.below hB).more hB.size, h3⟩
  case succ.succ.succ.succ.succ.zero => obtain ⟨x, A, c, v2, h1, h2, h3⟩ := h; exact ⟨x, A, c, v2, h1, (h2.below hB).more hB.size, h3⟩
  case succ.succ.succ.succ.succ.succ.zero => obtain ⟨x, A, c, h1, h2, h3⟩ := h; exact ⟨x, A, c, h1, (h2.below hB).more hB.size, h3⟩
  case succ.succ.succ.succ.succ.succ.succ.succ.succ.zero => obtain ⟨x, A, c, h1, h2, h3⟩ := h; exact ⟨x, A, c, h1, (h2.below hB).more hB.size, h3⟩
  all_goals exact h
open Classical in
set_option maxRecDepth 100000 in
set_option maxHeartbeats 4000000 in
theorem sure30 (bm bl bn : Nat) (A B Q : Option Addr) (c d cq : Nat) (m : List (Int × Int)) (l : List (Int × Int × Int)) (q : List Nat) (mn : Nat) (w : World) (hbm : bm < w.heap.size) (hbl : bl < w.heap.size) (hbn : bn < w.heap.size)
    (h1 : w.cell? ⟨bm, 0, none⟩ = some (.slice A m.length c)) (h2 : w.cell? ⟨bl, 0, none⟩ = some (.slice B l.length d)) (h3 : w.cell? ⟨bn, 0, none⟩ = some (I mn))
    (hm : Pairs w w.heap.size A m) (hl : Threes w w.heap.size B l) (hQ : Ints w w.heap.size Q (q.map fun k : Nat => (k : Int))) (hok : InOk m l) (hq : ∀ k ∈ q, k < l.length) (hql : q.length ≤ l.length) (hmn : mn < m.length) (hf : ∃ x, Feas m l x) :
    Calls Tryd.prog 30 #[.slice Q q.length cq, .pointer (some ⟨bm, 0, none⟩), .pointer (some ⟨bl, 0, none⟩), .pointer (some ⟨bn, 0, none⟩)] w fun e w' => e = .returned (.bool (decide (SureP m l mn q))) ∧ Below w.heap.size w w' := by
  have hl12 := hok.2.1
  have HCE : Hid (∀ W, Below w.heap.size w W → W.cell? ⟨bm, 0, none⟩ = some (.slice A m.length c) ∧ W.cell? ⟨bl, 0, none⟩ = some (.slice B l.length d) ∧ W.cell? ⟨bn, 0, none⟩ = some (I mn)) := Lib.hid fun W hW =>
    ⟨(hW.cell (p := ⟨_, _, none⟩) hbm).trans h1, (hW.cell (p := ⟨_, _, none⟩) hbl).trans h2, (hW.cell (p := ⟨_, _, none⟩) hbn).trans h3⟩
  have HSO : Hid (∀ W, Below w.heap.size w W → Calls Tryd.prog 31 #[.slice B l.length d, .slice Q q.length cq] W fun e w' => ∃ A c, e = .returned (.slice A q.length c) ∧ Threes w' w'.heap.size A (someL l q) ∧ Below W.heap.size W w') := Lib.hid fun W hW =>
    some31 B Q d cq l q W ((hl.below hW).more hW.size) (by omega) ((hQ.below hW).more hW.size) hq (by omega)
  obtain ⟨P, hP⟩ : ∃ P : List Int → Prop, P = fun x => decide ((mn : Int) ∈ x) = decide (SureP m l mn q) := ⟨_, rfl⟩
  have HOV : Hid (∀ B' c' W, Below w.heap.size w W → Threes W W.heap.size B' (someL l q) → Calls Tryd.prog 23 #[.slice A m.length c, .slice B' q.length c'] W fun e w' => ∃ x A1 c1 v2, e = .returned (.tuple #[.slice A1 x.length c1, v2, I 0]) ∧ Ints w' w'.heap.size A1 x ∧ x.length ≤ 100 ∧ P x ∧ Below W.heap.size W w') := Lib.hid fun B' c' W hW hB' => by
    rw [hP]
    exact over_some A B' c c' m l q mn W ((hm.below hW).more hW.size) hB' hok hq hql hmn hf
  obtain ⟨b, hb⟩ : ∃ b, b = decide (SureP m l mn q) := ⟨_, rfl⟩
  rw [← hb] at hP ⊢
  have HPP : Hid (∀ x, P x → decide ((mn : Int) ∈ x) = b) := Lib.hid fun x hx => by rw [hP] at hx; exact hx
  clear hP hb hm hl hQ hok hq hql hmn hf h1 h2 h3
  go_enter Tryd.func30, Tryd.ntmps30
  go_wp2_with (fail)
  refine (wpIn_wide (n := 9)).1 ?_
  refine wpIn_region_ops [some 12, some 13, some 14, some 15, some 16, some 11, some 17, some 18, some 19, some 6, some 7, some 8]
     (sV (.slice A m.length c) (.slice B l.length d) Q cq l q P) (fun _ W W' => Below W.heap.size W W') (fun W => Below w.heap.size w W) rfl (by kernel_rfl) (by kernel_rfl) (by kernel_rfl) (fun _ d _ _ _ h => by cases d <;> exact h) (Below.refl _ _).drew (fun j W W' h hG => h.trans (hG.mono h.size)) (fun i j v W W' _ _ h hG => sV_stab _ _ _ _ _ _ _ i v W W' h hG) ?_ ?_
  · refine ⟨?_, ?_, ?_, ?_, ?_, ?_, ?_, ?_, ?_, ?_, ?_, ?_, trivial⟩
    · (intro val W hC hd K hK; have HC := Lib.hid hC; have HD := Lib.hid hd; have HK := Lib.hid hK; clear hC hd hK; simp only [putD, Act.put, List.setIfInBounds_toArray, List.set_cons_succ, List.set_cons_zero, Nat.zero_add, Nat.reduceAdd] at HK ⊢)
      obtain ⟨e0, e1, e2⟩ := HCE.out W HC.out
      gi_wp2
      exact HK.out _ _ (Below.refl _ _) rfl
    · (intro val W hC hd K hK; have HC := Lib.hid hC; have HD := Lib.hid hd; have HK := Lib.hid hK; clear hC hd hK; simp only [putD, Act.put, List.setIfInBounds_toArray, List.set_cons_succ, List.set_cons_zero, Nat.zero_add, Nat.reduceAdd] at HK ⊢)
      obtain ⟨e0, e1, e2⟩ := HCE.out W HC.out
      gi_wp2
      exact HK.out _ _ (Below.refl _ _) rfl
    · (intro val W hC hd K hK; have HC := Lib.hid hC; have HD := Lib.hid hd; have HK := Lib.hid hK; clear hC hd hK; simp only [putD, Act.put, List.setIfInBounds_toArray, List.set_cons_succ, List.set_cons_zero, Nat.zero_add, Nat.reduceAdd] at HK ⊢)
      gi_wp2
      exact HK.out _ _ (Below.refl _ _) rfl
    · (intro val W hC hd K hK; have HC := Lib.hid hC; have HD := Lib.hid hd; have HK := Lib.hid hK; clear hC hd hK; simp only [putD, Act.put, List.setIfInBounds_toArray, List.set_cons_succ, List.set_cons_zero, Nat.zero_add, Nat.reduceAdd] at HK ⊢)
      have e1 : val 1 = .slice B l.length d := HD.out.1
      have e2 : val 2 = .slice Q q.length cq := HD.out.2.1
      rw [e1, e2] at HK ⊢
      gi_wp2_with (refine And.intro trivial ?_; gi_at_call 31; refine callsIn_wide.2 ((HSO.out W HC.out).mono ?_); rintro e w3 ⟨A3, c3, rfl, h3, hB3⟩)
      exact HK.out _ _ hB3 ⟨_, _, rfl, h3⟩
    · (intro val W hC hd K hK; have HC := Lib.hid hC; have HD := Lib.hid hd; have HK := Lib.hid hK; clear hC hd hK; simp only [putD, Act.put, List.setIfInBounds_toArray, List.set_cons_succ, List.set_cons_zero, Nat.zero_add, Nat.reduceAdd] at HK ⊢)
      have e0 : val 0 = .slice A m.length c := HD.out.1
      obtain ⟨A3, c3, e3, h3⟩ : ∃ A c, val 3 = .slice A q.length c ∧ Threes W W.heap.size A (someL l q) := HD.out.2.1
      rw [e0, e3] at HK ⊢
      have H3 := Lib.hid h3
      clear h3
      gi_wp2_with (refine And.intro trivial ?_; gi_at_call 23; refine callsIn_wide.2 ((HOV.out A3 c3 W HC.out H3.out).mono ?_); rintro e w3 ⟨x, A1, c1, v2, rfl, hx, hx1, hx2, hB3⟩)
      exact HK.out _ _ hB3 ⟨x, A1, c1, v2, rfl, hx, hx1, hx2⟩
    · (intro val W hC hd K hK; have HC := Lib.hid hC; have HD := Lib.hid hd; have HK := Lib.hid hK; clear hC hd hK; simp only [putD, Act.put, List.setIfInBounds_toArray, List.set_cons_succ, List.set_cons_zero, Nat.zero_add, Nat.reduceAdd] at HK ⊢)
      obtain ⟨x, A1, c1, v2, e4, h4⟩ : ∃ (x : List Int) (A : Option Addr) (c : Nat) (v2 : Value), val 4 = .tuple #[.slice A x.length c, v2, I 0] ∧ Ints W W.heap.size A x ∧ x.length ≤ 100 ∧ P x := HD.out.1
      rw [e4] at HK ⊢
      gi_wp2
      exact HK.out _ _ (Below.refl _ _) ⟨x, A1, c1, v2, rfl, h4⟩
    · (intro val W hC hd K hK; have HC := Lib.hid hC; have HD := Lib.hid hd; have HK := Lib.hid hK; clear hC hd hK; simp only [putD, Act.put, List.setIfInBounds_toArray, List.set_cons_succ, List.set_cons_zero, Nat.zero_add, Nat.reduceAdd] at HK ⊢)
      obtain ⟨x, A1, c1, v2, e4, h4⟩ : ∃ (x : List Int) (A : Option Addr) (c : Nat) (v2 : Value), val 5 = .tuple #[.slice A x.length c, v2, I 0] ∧ Ints W W.heap.size A x ∧ x.length ≤ 100 ∧ P x := HD.out.1
      rw [e4] at HK ⊢
      gi_wp2
      exact HK.out _ _ (Below.refl _ _) ⟨x, A1, c1, rfl, h4⟩
    · (intro val W hC hd K hK; have HC := Lib.hid hC; have HD := Lib.hid hd; have HK := Lib.hid hK; clear hC hd hK; simp only [putD, Act.put, List.setIfInBounds_toArray, List.set_cons_succ, List.set_cons_zero, Nat.zero_add, Nat.reduceAdd] at HK ⊢)
      obtain ⟨x, A1, c1, v2, e4, h4⟩ : ∃ (x : List Int) (A : Option Addr) (c : Nat) (v2 : Value), val 5 = .tuple #[.slice A x.length c, v2, I 0] ∧ Ints W W.heap.size A x ∧ x.length ≤ 100 ∧ P x := HD.out.1
      rw [e4] at HK ⊢
      gi_wp2
      exact HK.out _ _ (Below.refl _ _) trivial
    · (intro val W hC hd K hK; have HC := Lib.hid hC; have HD := Lib.hid hd; have HK := Lib.hid hK; clear hC hd hK; simp only [putD, Act.put, List.setIfInBounds_toArray, List.set_cons_succ, List.set_cons_zero, Nat.zero_add, Nat.reduceAdd] at HK ⊢)
      obtain ⟨x, A1, c1, v2, e4, h4⟩ : ∃ (x : List Int) (A : Option Addr) (c : Nat) (v2 : Value), val 5 = .tuple #[.slice A x.length c, v2, I 0] ∧ Ints W W.heap.size A x ∧ x.length ≤ 100 ∧ P x := HD.out.1
      rw [e4] at HK ⊢
      gi_wp2
      exact HK.out _ _ (Below.refl _ _) rfl
    · (intro val W hC hd K hK; have HC := Lib.hid hC; have HD := Lib.hid hd; have HK := Lib.hid hK; clear hC hd hK; simp only [putD, Act.put, List.setIfInBounds_toArray, List.set_cons_succ, List.set_cons_zero, Nat.zero_add, Nat.reduceAdd] at HK ⊢)
      obtain ⟨x, A1, c1, e4, h4⟩ : ∃ (x : List Int) (A : Option Addr) (c : Nat), val 6 = .slice A x.length c ∧ Ints W W.heap.size A x ∧ x.length ≤ 100 ∧ P x := HD.out.1
      rw [e4] at HK ⊢
      gi_wp2
      exact HK.out _ _ (Below.refl _ _) ⟨x, A1, c1, rfl, h4⟩
    · (intro val W hC hd K hK; have HC := Lib.hid hC; have HD := Lib.hid hd; have HK := Lib.hid hK; clear hC hd hK; simp only [putD, Act.put, List.setIfInBounds_toArray, List.set_cons_succ, List.set_cons_zero, Nat.zero_add, Nat.reduceAdd] at HK ⊢)
      gi_wp2
      exact HK.out _ _ (Below.refl _ _) trivial
    · (intro val W hC hd K hK; have HC := Lib.hid hC; have HD := Lib.hid hd; have HK := Lib.hid hK; clear hC hd hK; simp only [putD, Act.put, List.setIfInBounds_toArray, List.set_cons_succ, List.set_cons_zero, Nat.zero_add, Nat.reduceAdd] at HK ⊢)
      have e8 : val 8 = I 0 := HD.out.1
      rw [e8] at HK ⊢
      gi_wp2
      exact HK.out _ _ (Below.refl _ _) rfl
  · intro val W hC hd
    obtain ⟨x, A1, c1, e9, hx, hx1, hx2⟩ : ∃ (x : List Int) (A : Option Addr) (c : Nat), val 9 = .slice A x.length c ∧ Ints W W.heap.size A x ∧ x.length ≤ 100 ∧ P x := hd.2.2.2.2.2.2.2.2.2.1
    have e11 : val 11 = I 0 := hd.2.2.2.2.2.2.2.2.2.2.2.1
    simp only [putD, Act.put, List.setIfInBounds_toArray, List.set_cons_succ, List.set_cons_zero, Nat.zero_add, Nat.reduceAdd]
    rw [e9, e11]
    have HX := Lib.hid hx
    have HBX := Lib.hid (HPP.out x hx2)
    have HCB := Lib.hid hC
    have hzC := hC.size
    clear hd e9 e11 hx hx2 hC
    go_wp2_with (fail)
    go_loopw [22] (fun s wr => ∃ k : Nat, k ≤ x.length ∧ s = I k ∧ Below W.heap.size W wr ∧ Hid (∀ j (h : j < x.length), j < k → x[j] ≠ (mn : Int))) (fun s _ => x.length - (intOf s).toNat)
    case atStart => exact ⟨0, Nat.zero_le _, rfl, Below.refl _ _, Lib.hid fun j _ h => by omega⟩
    case round =>
      obtain ⟨k, hk, rfl, hB, HN⟩ := hrel
      obtain ⟨e0, e1, e2⟩ := HCE.out _ (HCB.out.trans (hB.mono hzC))
      by_cases hlt : k < x.length
      · obtain ⟨xb, xo, hXe, hxz, hxc⟩ := (HX.out.below hB) (by omega)
        subst hXe
        have x0 := hxc k hlt
        have HST : Hid (x[k] ≠ (mn : Int) → ∀ j (h : j < x.length), j < k + 1 → x[j] ≠ (mn : Int)) := Lib.hid fun e j h hj => by
          rcases Nat.lt_succ_iff_lt_or_eq.1 hj with h1 | rfl
          · exact HN.out j h h1
          · exact e
        have HIN : Hid (x[k] = (mn : Int) → b = true) := Lib.hid fun e => by
          rw [← HBX.out]
          exact decide_eq_true (e ▸ List.getElem_mem hlt)
        generalize x[k] = u at *
        have p2 : (0 : Int) ≤ (k : Int) := by omega
        have p3 : (k : Int) < (x.length : Int) := by omega
        clear hxc
        by_cases he : u = (mn : Int)
        · have HBT := Lib.hid (HIN.out he)
          have heb : (u == (mn : Int)) = true := by simpa using he
          clear he
          go_wp2
          go_ret
          exact ⟨ret_b HBT.out.symm, HCB.out.trans (hB.mono hzC)⟩
        · have heb : (u == (mn : Int)) = false := by simpa using he
          have HE := Lib.hid he
          clear he
          go_wp2
          go_roundw
          case rel => exact ⟨k + 1, by omega, by go_num, hB, Lib.hid (HST.out HE.out)⟩
          case measure => first | (simp [intOf]; done) | (simp [intOf]; omega)
      · have HBF : Hid (b = false) := Lib.hid (by
          rw [← HBX.out]
          refine decide_eq_false fun hmem => ?_
          obtain ⟨j, hj, e⟩ := List.mem_iff_getElem.1 hmem
          exact HN.out j hj (by omega) e)
        go_wp2
        go_ret
        exact ⟨ret_b HBF.out.symm, HCB.out.trans (hB.mono hzC)⟩
end Go.Proofs.YtgdilbilhajgaaaDoor
