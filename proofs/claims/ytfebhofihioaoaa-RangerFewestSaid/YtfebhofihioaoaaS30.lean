/- All posts that go on from some, of the document. -/
import Derived.Test.YtfebhofihioaoaaA10
import Derived.Test.YtfebhofihioaoaaN4
import Derived.Maps.AppendAt
namespace Go.Proofs.Ytfebhofihioaoaa
set_option linter.unusedVariables false
set_option linter.unusedSimpArgs false
open Go Go.RowKit

theorem info27 : (Try.prog.info? 27).map (fun i => (i.zero, i.size, i.bytes)) = some (some (.slice none 0 0), 1, 24) := by kernel_rfl
theorem info3b : (Try.prog.info? 3).map (fun i => (i.zero, i.size, i.bytes)) = some (some (.int .i64 0), 1, 8) := by kernel_rfl
/-- Numbers at D, in another block than some. -/
def NI (W : World) (ob : Option Nat) (D : Option Addr) (p : List Nat) : Prop :=
  0 < p.length → ∃ b off, D = some ⟨b, off, none⟩ ∧ b < W.heap.size ∧ ob ≠ some b ∧ ∀ k (h : k < p.length), W.cell? ⟨b, off + k, none⟩ = some (I (p[k] : Nat))
theorem NI.frm {W W' : World} {ob ob' : Option Nat} {D : Option Addr} {p : List Nat} (h : NI W ob D p) (hF : Frm W.heap.size (fun b => ob = some b) W W') (ho : ob' = ob ∨ ∃ g, ob' = some g ∧ W.heap.size ≤ g) : NI W' ob' D p := fun h0 => by
  obtain ⟨b, off, h1, h2, h3, h4⟩ := h h0
  refine ⟨b, off, h1, Nat.lt_of_lt_of_le h2 hF.size, ?_, fun k hk => (hF.cell h2 h3).trans (h4 k hk)⟩
  rcases ho with rfl | ⟨g, rfl, hg⟩
  · exact h3
  · intro e; cases e; omega
theorem NI.ints {W : World} {ob : Option Nat} {D : Option Addr} {p : List Nat} (h : NI W ob D p) : Ints W W.heap.size D (p.map fun k : Nat => (k : Int)) := fun h0 => by
  obtain ⟨b, off, h1, h2, h3, h4⟩ := h (by simpa using h0)
  exact ⟨b, off, h1, h2, fun k hk => by rw [h4 k (by simpa using hk)]; simp⟩
theorem NI.src {W : World} {ob : Option Nat} {D : Option Addr} {p : List Nat} (h : NI W ob D p) : 0 < p.length → ∃ ad, D = some ad ∧ ∀ j u, (p.map fun k : Nat => I k)[j]? = some u → W.cell? (ad.add j) = some u := fun h0 => by
  obtain ⟨b, off, rfl, h2, h3, h4⟩ := h h0
  refine ⟨_, rfl, fun j u hj => ?_⟩
  obtain ⟨hj1, rfl⟩ := List.getElem?_eq_some_iff.1 hj
  rw [Addr.add_lit, h4 j (by simpa using hj1)]
  simp
/-- A row of rows of numbers, of one's own. -/
structure RowsAt (W : World) (base : Nat) (v : Value) (ls : List (List Nat)) (vs : List Value) : Prop where
  own : W.ownsRow base 27 1 v ls.length vs
  row : ∀ j (h : j < ls.length), ∃ D g, vs[j]? = some (.slice D ls[j].length g) ∧ NI W v.ownBlock D ls[j]
theorem RowsAt.nil (W : World) (base : Nat) : RowsAt W base (.slice none 0 0) [] [] := ⟨World.ownsRow_nil W base 27 1, fun j h => absurd h (by simp)⟩
theorem RowsAt.len {W : World} {base : Nat} {v : Value} {ls : List (List Nat)} {vs : List Value} (h : RowsAt W base v ls vs) : vs.length = ls.length := by simpa using h.own.1
theorem RowsAt.below {W W' : World} {base : Nat} {v : Value} {ls : List (List Nat)} {vs : List Value} (h : RowsAt W base v ls vs) (hB : Below W.heap.size W W') : RowsAt W' base v ls vs :=
  ⟨grown_own h.own hB, fun j hj => by
    obtain ⟨D, g, h1, h2⟩ := h.row j hj
    exact ⟨D, g, h1, h2.frm (.of_below hB (Nat.le_refl _)) (.inl rfl)⟩⟩
/-- One row more. -/
theorem RowsAt.snoc {W W' : World} {base : Nat} {v v' : Value} {ls : List (List Nat)} {vs : List Value} {D : Option Addr} {p : List Nat} {g : Nat} (h : RowsAt W base v ls vs) (hp : NI W v.ownBlock D p) (hF : Frm W.heap.size (fun b => v.ownBlock = some b) W W')
    (ho : v'.ownBlock = v.ownBlock ∨ ∃ g, v'.ownBlock = some g ∧ W.heap.size ≤ g) (hown : W'.ownsRow base 27 1 v' (ls.length + 1) (vs ++ [.slice D p.length g])) : RowsAt W' base v' (ls ++ [p]) (vs ++ [.slice D p.length g]) := by
  refine ⟨by simpa using hown, fun j hj => ?_⟩
  have hl := h.len
  rcases Nat.lt_or_ge j ls.length with h1 | h1
  · obtain ⟨E, c, h2, h3⟩ := h.row j h1
    refine ⟨E, c, ?_, ?_⟩
    · rw [List.getElem?_append_left (by omega), List.getElem_append_left h1, h2]
    · rw [List.getElem_append_left h1]
      exact h3.frm hF ho
  · obtain rfl : j = ls.length := by simp at hj; omega
    refine ⟨D, g, ?_, ?_⟩
    · rw [List.getElem?_append_right (by omega), hl]
      simp
    · simpa using hp.frm hF ho
theorem vecs_len : ∀ (k left : Nat), left ≤ 12 → (vecs k left).length ≤ 13 ^ k
  | 0, left, _ => by
    unfold vecs
    split <;> simp
  | k + 1, left, h => by
    unfold vecs
    rw [List.length_flatMap]
    have h1 : ∀ l : List Nat, (∀ v ∈ l, v ≤ left) → (l.map fun a => ((vecs k (left - a)).map (a :: ·)).length).sum ≤ l.length * 13 ^ k := fun l => by
      induction l with
      | nil => intro _; simp
      | cons a l ih =>
        intro hl
        have h2 := ih fun v hv => hl v (by simp [hv])
        have h3 := vecs_len k (left - a) (by omega)
        simp only [List.map_cons, List.sum_cons, List.length_map, List.length_cons] at h2 ⊢
        rw [Nat.add_mul, Nat.one_mul]
        omega
    have h2 := h1 (List.range (left + 1)) fun v hv => by have := List.mem_range.1 hv; omega
    rw [List.length_range] at h2
    have h3 : (left + 1) * 13 ^ k ≤ 13 * 13 ^ k := Nat.mul_le_mul_right _ (by omega)
    rw [Nat.pow_succ]
    omega
/-- What the first numbers give. -/
def preV (k left : Nat) (p : List Nat) (c : Nat) : List (List Nat) := (List.range c).flatMap fun v => (vecs k (left - v)).map fun m => (p ++ [v]) ++ m
theorem preV_succ (k left : Nat) (p : List Nat) (c : Nat) : preV k left p (c + 1) = preV k left p c ++ (vecs k (left - c)).map fun m => (p ++ [c]) ++ m := by
  unfold preV
  rw [List.range_succ, List.flatMap_append]
  simp
theorem preV_all (k left : Nat) (p : List Nat) : preV k left p (left + 1) = (vecs (k + 1) left).map (p ++ ·) := by
  have e : vecs (k + 1) left = (List.range (left + 1)).flatMap fun v => (vecs k (left - v)).map (v :: ·) := rfl
  unfold preV
  rw [e, List.map_flatMap]
  congr 1
  funext v
  simp
theorem preV_len (k left : Nat) (p : List Nat) {c : Nat} (hc : c ≤ left) : (preV k left p c).length + (vecs k (left - c)).length ≤ (vecs (k + 1) left).length := by
  have h1 : (preV k left p (c + 1)).length ≤ (preV k left p (left + 1)).length := by
    have : ∀ d, (preV k left p (c + 1)).length ≤ (preV k left p (c + 1 + d)).length := fun d => by
      induction d with
      | zero => exact Nat.le_refl _
      | succ d ih =>
        have e : (preV k left p (c + 1 + (d + 1))).length = (preV k left p (c + 1 + d)).length + ((vecs k (left - (c + 1 + d))).map fun m => (p ++ [c + 1 + d]) ++ m).length := by
          rw [← Nat.add_assoc, preV_succ, List.length_append]
        omega
    have h2 := this (left - c)
    rwa [show c + 1 + (left - c) = left + 1 by omega] at h2
  rw [preV_all, preV_succ, List.length_append, List.length_map, List.length_map] at h1
  exact h1
/-- The posts that go on from p. -/
def All44 (n k left : Nat) : Prop := ∀ (p : List Nat) (ls : List (List Nat)) (vs : List Value) (W : World) (base : Nat) (v : Value) (D : Option Addr) (g : Nat), p.length + k = n → ls.length + (vecs k left).length ≤ 1000000000 → NI W v.ownBlock D p → RowsAt W base v ls vs → base ≤ W.heap.size →
  Calls Try.prog 44 #[I n, I left, .slice D p.length g, v] W fun e w' => ∃ v' vs', e = .returned v' ∧ RowsAt w' base v' (ls ++ (vecs k left).map (p ++ ·)) vs' ∧ Frm W.heap.size (fun b => v.ownBlock = some b) W w' ∧ (v'.ownBlock = v.ownBlock ∨ ∃ g, v'.ownBlock = some g ∧ W.heap.size ≤ g)
set_option maxRecDepth 100000 in
set_option maxHeartbeats 2000000 in
theorem all44_zero (n left : Nat) (hn : n ≤ 6) (hle : left ≤ 12) : All44 n 0 left := fun p ls vs w base v D g hp hb hD hR hbase => by
  obtain rfl : p.length = n := by omega
  obtain ⟨i0, hi0, hi1, hi2, hi3⟩ := info_parts info27
  have hu : Try.prog.underlying 77 = some (.slice 27) := Try.underlying77
  have HU := Lib.hid hu; have HI0 := Lib.hid hi0; have HI1 := Lib.hid hi1; have HI2 := Lib.hid hi2; have HI3 := Lib.hid hi3
  clear hu hi0 hi1 hi2 hi3
  have HD := Lib.hid hD
  have HR := Lib.hid hR
  have hpl : p.length ≤ 9223372036854775807 := by omega
  rcases Nat.eq_zero_or_pos left with h0 | h0
  · subst h0
    have HV : Hid ((vecs 0 0).map (p ++ ·) = [p]) := Lib.hid (by simp [vecs])
    rw [HV.out]
    have HO := Lib.hid (hR.own.alloc (.cells #[.slice D p.length g] 27))
    have HC : Hid (∀ j u, [Value.slice D p.length g][j]? = some u → (w.alloc (.cells #[.slice D p.length g] 27)).cell? ((⟨w.heap.size, 0, none⟩ : Addr).add j) = some u) := Lib.hid fun j u hj => by
      rcases j with _ | j
      · simp at hj; subst hj; simp [Addr.add, go_sem]
      · simp at hj
    have hl1 : ls.length ≤ 1000000000 := by omega
    clear hD hR
    go_enter Try.func44, Try.ntmps44
    go_wp2_with (first
      | (at_builtin; refine wpList_append_own_at _ rfl _ _ 77 rfl base 27 i0 (.slice none 0 0) 1 24 HU.out HI0.out HI1.out HI2.out HI3.out rfl (by decide) _ _ _ rfl HO.out ⟨w.heap.size, 0, none⟩ 1 1 [.slice D p.length g] rfl rfl HC.out (by simp [Value.oneCell']) (by unfold maxLen; omega) (by omega) (by simp; omega) ?_; intro v' w1 hown hgrow _ hat)
      | fail)
    have hF : Frm w.heap.size (fun b => v.ownBlock = some b) w w1 := ((Frm.refl w.heap.size _ w).alloc (Nat.le_refl _) _).grown hgrow (by simp) fun k e => .inr e
    have hat' : v'.ownBlock = v.ownBlock ∨ ∃ g, v'.ownBlock = some g ∧ w.heap.size ≤ g := by
      rcases hat with h | h
      · exact .inl h
      · exact .inr ⟨_, h, by simp⟩
    have HRR := Lib.hid (HR.out.snoc HD.out hF hat' hown)
    have HF := Lib.hid hF
    have HAT := Lib.hid hat'
    clear hF hat hat' hown hgrow
    go_wp2_with (fail)
    go_ret
    exact ⟨v', _, rfl, HRR.out, HF.out, HAT.out⟩
  · have HV : Hid ((vecs 0 left).map (p ++ ·) = []) := Lib.hid (by unfold vecs; rw [if_neg (by omega)]; rfl)
    rw [HV.out, List.append_nil]
    have h1 : (left == 0) = false := by simp; omega
    have h2 : ((left : Int) == 0) = false := by simp; omega
    clear hD hR h0
    go_enter Try.func44, Try.ntmps44
    go_wp2_with (fail)
    go_ret
    exact ⟨v, _, rfl, HR.out, Frm.refl _ _ _, .inl rfl⟩
set_option maxRecDepth 100000 in
set_option maxHeartbeats 4000000 in
theorem all44_succ (n k left : Nat) (hn : n ≤ 6) (hle : left ≤ 12) (ih : ∀ c, c ≤ left → All44 n k (left - c)) : All44 n (k + 1) left := fun p ls vs w base v D g hp hb hD hR hbase => by
  obtain ⟨i0, hi0, hi1, hi2, hi3⟩ := info_parts info3b
  have hu : Try.prog.underlying 27 = some (.slice 3) := Try.underlying27
  have HU := Lib.hid hu; have HI0 := Lib.hid hi0; have HI1 := Lib.hid hi1; have HI2 := Lib.hid hi2; have HI3 := Lib.hid hi3
  clear hu hi0 hi1 hi2 hi3
  have hp6 : p.length ≤ 5 := by omega
  have hne : ((p.length : Int) == (n : Int)) = false := by simp; omega
  have hne2 : (p.length == n) = false := by simp; omega
  have HP := Lib.hid hp
  have HPL : Hid (∀ c, c ≤ left → ls.length + (preV k left p c).length + (vecs k (left - c)).length ≤ 1000000000) := Lib.hid fun c hc => by have := preV_len k left p hc; omega
  have HPA := Lib.hid (preV_all k left p)
  have HPS := Lib.hid (preV_succ k left p)
  have HP0 : Hid (ls ++ preV k left p 0 = ls) := Lib.hid (by simp [preV])
  have HIH := Lib.hid ih
  have HD := Lib.hid hD
  have HR : Hid (RowsAt w base v (ls ++ preV k left p 0) vs) := Lib.hid (by rw [HP0.out]; exact hR)
  rw [← HPA.out]
  have hpl : p.length ≤ 9223372036854775807 := by omega
  clear hD hR hp ih hb HP0
  generalize preV k left p = pr at *
  have HONE : Hid (∀ u ∈ p.map fun k : Nat => I k, u.oneCell' = true) := Lib.hid fun u hu => by
    obtain ⟨s, _, rfl⟩ := List.mem_map.1 hu
    rfl
  have HLM : Hid ((p.map fun k : Nat => I k).length = p.length * 1) := Lib.hid (by simp)
  obtain ⟨obv, hobv⟩ : ∃ obv, v.ownBlock = obv := ⟨_, rfl⟩
  have HOB := Lib.hid hobv
  rw [hobv] at HD ⊢
  clear hobv
  go_enter Try.func44, Try.ntmps44
  go_wp2_with (fail)
  go_loopw [3, 9] (fun s3 s9 wr => ∃ (c : Nat) (v3 : Value) (vs3 : List Value), c ≤ left + 1 ∧ s9 = I c ∧ v3 = s3 ∧ Hid (RowsAt wr base v3 (ls ++ pr c) vs3) ∧ Hid (NI wr v3.ownBlock D p) ∧ Hid (Frm w.heap.size (fun b => obv = some b) w wr) ∧ Hid (v3.ownBlock = obv ∨ ∃ g, v3.ownBlock = some g ∧ w.heap.size ≤ g)) (fun _ s _ => left + 1 - (intOf s).toNat)
  case atStart => exact ⟨0, v, vs, by omega, rfl, rfl, HR, Lib.hid (by rw [HOB.out]; exact HD.out), Lib.hid (Frm.refl _ _ _), Lib.hid (.inl HOB.out)⟩
  case round =>
    clear HR HD HOB
    obtain ⟨c, v3, vs3, hc, rfl, rfl, HR, HD, HF, HA⟩ := hrel
    have hzr := HF.out.size
    by_cases hlt : c ≤ left
    · have HIC := Lib.hid (HIH.out c hlt)
      have HPC := Lib.hid (HPS.out c)
      have HLC := Lib.hid (HPL.out c hlt)
      have hco : ((left : Int) - (c : Int)) = ((left - c : Nat) : Int) := by omega
      have HSR2 : Hid (0 < p.length → ∃ ad, D = some ad ∧ ∀ j u, (p.map fun k : Nat => I k)[j]? = some u → (wr.alloc (.cells #[] 3)).cell? (ad.add j) = some u) := Lib.hid fun h => (HD.out.frm (.of_below (below1 wr (.cells #[] 3)) (Nat.le_refl _)) (.inl rfl)).src h
      have H44 : Hid (∀ (W : World) (g2 cap2 : Nat), Below wr.heap.size wr W → wr.heap.size ≤ g2 → W.ownsRow wr.heap.size 3 1 (.slice (some ⟨g2, 0, none⟩) (p.length + 1) cap2) (p.length + 1) ((p.map fun k : Nat => I k) ++ [I c]) →
          Calls Try.prog 44 #[I n, I ((left - c : Nat) : Int), .slice (some ⟨g2, 0, none⟩) (p.length + 1) cap2, v3] W fun e w' => ∃ v' vs', e = .returned v' ∧ Hid (RowsAt w' base v' (ls ++ pr (c + 1)) vs') ∧ Hid (NI w' v'.ownBlock D p) ∧ Hid (Frm w.heap.size (fun b => obv = some b) w w') ∧ Hid (v'.ownBlock = obv ∨ ∃ g, v'.ownBlock = some g ∧ w.heap.size ≤ g)) := Lib.hid fun W g2 cap2 hB hg ho => by
        have hzW := hB.size
        have hNI : NI W v3.ownBlock (some ⟨g2, 0, none⟩) (p ++ [c]) := fun _ => by
          refine ⟨g2, 0, rfl, (ho.lt g2 rfl).2, fun e => ?_, fun j hj => ?_⟩
          · have := (HR.out.own.lt g2 e).2
            omega
          · have h1 := ho.cells (g := g2) rfl j (I ((p ++ [c])[j] : Nat)) (by
              have e : ((p.map fun k : Nat => I k) ++ [I c]) = (p ++ [c]).map fun k : Nat => I k := by simp
              rw [e, List.getElem?_map, List.getElem?_eq_getElem hj]
              rfl)
            rwa [Addr.add_lit] at h1
        have h := HIC.out (p ++ [c]) (ls ++ pr c) vs3 W base v3 (some ⟨g2, 0, none⟩) cap2 (by have := HP.out; simp; omega) (by have := HLC.out; simp only [List.length_append]; omega) hNI (HR.out.below hB) (by omega)
        rw [show (p ++ [c]).length = p.length + 1 by simp] at h
        refine h.mono ?_
        rintro e w' ⟨v', vs', rfl, h1, h2, h3⟩
        refine ⟨v', vs', rfl, Lib.hid ?_, Lib.hid ?_, Lib.hid ?_, Lib.hid ?_⟩
        · rw [HPC.out, ← List.append_assoc]
          exact h1
        · exact (HD.out.frm (.of_below hB (Nat.le_refl _)) (.inl rfl)).frm h2 h3
        · refine (HF.out.then_ hB hzr).trans (h2.mono (by omega) fun k hk e => ?_)
          rcases HA.out with h4 | ⟨g4, h4, h5⟩
          · rw [← h4]; exact e
          · rw [h4] at e; cases e; omega
        · rcases h3 with h4 | ⟨g4, h4, h5⟩
          · rw [h4]; exact HA.out
          · exact .inr ⟨g4, h4, by omega⟩
      clear HR HD HF HA HIC HPC HLC
      have tk1 : True := trivial
      have tk2 : True := trivial
      go_wp2_with (first
        | (at_builtin; have _t := tk1; (refine wpList_append_any _ rfl _ _ 27 rfl wr.heap.size 3 i0 (.int .i64 0) 1 8 HU.out HI0.out HI1.out HI2.out HI3.out rfl (by decide) _ _ _ rfl (World.ownsRow_made wr #[] 0 (Nat.le_refl _) (Nat.zero_le _) (by simp)) D p.length g (p.map fun k : Nat => I k) rfl HLM.out HSR2.out HONE.out (by unfold maxLen; omega) (by omega) (by simp) ?_); (intro v1 w1 hown1 hg1; clear tk1); (have HB1 : Hid (Below wr.heap.size wr w1) := Lib.hid (((Below.refl _ wr).alloc (Nat.le_refl _) _).grown hg1 (by simp) (by intro kk hk; cases hk; exact Nat.le_refl _))); (have HO1 : Hid (w1.ownsRow wr.heap.size 3 1 v1 p.length (p.map fun k : Nat => I k)) := Lib.hid (by simpa using hown1)); have hz1 := HB1.out.size; have HO1a := Lib.hid (HO1.out.alloc (.cells #[I c] 3)); (have HC1 := Lib.hid (cell_one3 w1 (I c) 3)); clear hown1 hg1)
        | (at_builtin; have _t := tk2; refine wpList_append_own _ rfl _ _ 27 rfl wr.heap.size 3 i0 (.int .i64 0) 1 8 HU.out HI0.out HI1.out HI2.out HI3.out rfl (by decide) _ _ _ rfl HO1a.out ⟨w1.heap.size, 0, none⟩ 1 1 [I c] rfl rfl HC1.out (by simp [Value.oneCell']) (by unfold maxLen; omega) (by omega) (by simp; omega) ?_; intro v2 w2 hown2 hg2 _; clear tk2; have HB2 : Hid (Below wr.heap.size wr w2) := Lib.hid ((HB1.out.alloc hz1 _).grown hg2 (by simp; omega) (by intro k hk; exact (HO1.out.lt k hk).1)); (obtain ⟨g2, cap2, hv2, hg21⟩ : ∃ g2 cap2, v2 = .slice (some ⟨g2, 0, none⟩) (p.length + 1) cap2 ∧ wr.heap.size ≤ g2 := (by rcases own_form hown2 with ⟨_, h⟩ | ⟨g, cap, h1, h2, _⟩; exact absurd h (by omega); exact ⟨g, cap, h1, h2⟩)); subst hv2; have HO2 := Lib.hid hown2; clear hown2 hg2)
        | (go_at_call 44; refine (H44.out _ _ _ HB2.out hg21 HO2.out).mono ?_; rintro e w3 ⟨v4, vs4, rfl, K1, K2, K3, K4⟩)
        | fail)
      go_roundw
      case rel => first | exact ⟨c + 1, v4, vs4, by omega, by go_num, rfl, K1, K2, K3, K4⟩ | ((repeat apply Exists.intro); refine ⟨?_, rfl⟩; exact ⟨c + 1, v4, vs4, by omega, by go_num, rfl, K1, K2, K3, K4⟩)
      case measure => first | (simp [intOf]; done) | (simp [intOf]; omega)
    · obtain rfl : c = left + 1 := by omega
      go_wp2_with (fail)
      go_ret
      exact ⟨v3, vs3, rfl, HR.out, HF.out, HA.out⟩
theorem all44 (n : Nat) (hn : n ≤ 6) : ∀ (k left : Nat), left ≤ 12 → All44 n k left
  | 0, left, h => all44_zero n left hn h
  | k + 1, left, h => all44_succ n k left hn h fun c hc => all44 n hn k (left - c) (by omega)
end Go.Proofs.Ytfebhofihioaoaa
