/- slices.Repeat. -/
import Derived.Test.YtgdilbilhajgaaaDoorE2
import Derived.Laws.CopyOwn
import Derived.OwnWalk
import Derived.OwnWalkIn
namespace Go.Proofs.YtgdilbilhajgaaaDoor
set_option linter.unusedVariables false
set_option linter.unusedSimpArgs false
open Go Go.RowKit

theorem run_copy_k {P : Program} (w : World) (dT sT ty e : TypeId) (size : Nat) (hu : P.underlying dT = some (.slice e)) (hsz : (P.info? e).map (·.size) = some size) (g off dLen dCap : Nat) (ad : Addr) (sLen sCap : Nat)
    (cur : List Value) (t : TypeId) (hg : w.heap[g]? = some (.cells cur.toArray t (0, 0))) (cs : List Value) (hn : cs.length = Nat.min sLen dLen * size) (hsrc : ∀ j v, cs[j]? = some v → w.cell? (ad.add j) = some v) (hfit : off + cs.length ≤ cur.length) (h1 : ∀ v ∈ cs, v.oneCell' = true) :
    (Builtin.copy_ #[dT, sT] ty #[.slice (some ⟨g, off, none⟩) dLen dCap, .slice (some ad) sLen sCap]).run P w = .ok (goInt (Nat.min sLen dLen)) (w.setRow g (splice cur off cs).toArray) := by
  obtain ⟨i, hi, hs⟩ := Option.map_eq_some_iff.1 hsz
  subst hs
  have hf := run_firstCells_some (P := P) w i.size (Nat.min sLen dLen) ad sLen sCap cs hn hsrc
  have hst := run_storeCells_at P g off t cs 0 cur.toArray w hg (by simpa using hfit) h1
  simp only [Nat.add_zero] at hst
  simp [Builtin.copy_, run_underlying hu, sizeOf, typeInfo, hi, Builtin.lenOf, hf, hst, splice]

section
variable {F : Fence} {n : Nat} {P : Program} {Q : Exit → Act → World → Prop}
theorem wpList_copy_k {w : World} {ops : Array Oper} {rest : List Oper} {o : Oper} {a : Act} (hgd : o.guard = none) (d s : Operand) (dT sT : TypeId)
    (ho : o.op = .call { callee := .builtin .copy, args := #[d, s], argTypes := #[dT, sT] }) (e : TypeId) (size : Nat) (hu : P.underlying dT = some (.slice e)) (hsz : (P.info? e).map (·.size) = some size)
    (g off dLen dCap : Nat) (ad : Addr) (sLen sCap m : Nat) (hd : a.eval d = .slice (some ⟨g, off, none⟩) dLen dCap) (hs : a.eval s = .slice (some ad) sLen sCap) (hm : Nat.min sLen dLen = m)
    (cur : List Value) (t : TypeId) (hg : w.heap[g]? = some (.cells cur.toArray t (0, 0))) (cs : List Value) (hn : cs.length = m * size) (hsrc : ∀ j v, cs[j]? = some v → w.cell? (ad.add j) = some v) (hfit : off + cs.length ≤ cur.length) (h1 : ∀ v ∈ cs, v.oneCell' = true)
    (h : ∀ w', w'.heap[g]? = some (.cells (splice cur off cs).toArray t (0, 0)) → w.grownBy w' (some g) → wpList P ops Q rest (a.put o.dst (.int .i64 (m : Int))) w') : wpList P ops Q (o :: rest) a w := by
  refine wpList_plain hgd fun K hK => ?_
  have hrun := run_copy_k (P := P) w dT sT o.type e size hu hsz g off dLen dCap ad sLen sCap cur t hg cs (by rw [hm]; exact hn) hsrc hfit h1
  rw [hm] at hrun
  unfold Oper.wp
  simp [execOp, ho, resolve, invoke, builtin, hd, hs, hrun, Result.andThen]
  exact hK _ _ (h _ (setRow_heap w g _ _ t _ hg) ⟨rfl, rfl, rfl, by simp [World.setRow], fun k hk hne => setRow_other w g k _ (fun e => hne (by rw [e]))⟩)
theorem opIn_copy_k (hro : F.round = none) (w : World) {o : Oper} {a : Act} {K : Act → World → Prop} (d s : Operand) (dT sT : TypeId)
    (ho : o.op = .call { callee := .builtin .copy, args := #[d, s], argTypes := #[dT, sT] }) (e : TypeId) (size : Nat) (hu : P.underlying dT = some (.slice e)) (hsz : (P.info? e).map (·.size) = some size)
    (g off dLen dCap : Nat) (ad : Addr) (sLen sCap m : Nat) (hd : a.eval d = .slice (some ⟨g, off, none⟩) dLen dCap) (hs : a.eval s = .slice (some ad) sLen sCap) (hm : Nat.min sLen dLen = m)
    (cur : List Value) (t : TypeId) (hg : w.heap[g]? = some (.cells cur.toArray t (0, 0))) (cs : List Value) (hn : cs.length = m * size) (hsrc : ∀ j v, cs[j]? = some v → w.cell? (ad.add j) = some v) (hfit : off + cs.length ≤ cur.length) (h1 : ∀ v ∈ cs, v.oneCell' = true)
    (h : ∀ w', w'.heap[g]? = some (.cells (splice cur off cs).toArray t (0, 0)) → w.grownBy w' (some g) → K (a.put o.dst (.int .i64 (m : Int))) w') : o.wpIn F n P a w K Q := by
  have hrun := run_copy_k (P := P) w dT sT o.type e size hu hsz g off dLen dCap ad sLen sCap cur t hg cs (by rw [hm]; exact hn) hsrc hfit h1
  rw [hm] at hrun
  unfold Oper.wpIn
  refine ⟨?_, ?_⟩
  · simp [Oper.about, ho, resolve, Target.leads, Sem.run_pure]
  · rw [hro, Oper.semAt_none]
    simp only [execOp, ho, resolve, invoke, builtin, Sem.run_bind, Sem.run_pure, Result.andThen_ok, List.map_toArray, List.map_cons, List.map_nil, hd, hs, hrun]
    exact h _ (setRow_heap w g _ _ t _ hg) ⟨rfl, rfl, rfl, by simp [World.setRow], fun k hk hne => setRow_other w g k _ (fun e => hne (by rw [e]))⟩
end
theorem block_cells {w : World} {S T : Nat} {L : List Value} (h : w.heap[S]? = some (.cells L.toArray T (0, 0))) (j : Nat) (v : Value) (hj : L[j]? = some v) : w.cell? ⟨S, j, none⟩ = some v := by
  rw [cell_of_row w S j L.toArray T (0, 0) h]
  simpa using hj

/-- Block S is a row of n elements, the first k of which are all alike. -/
def Rp (W : World) (S T size n k : Nat) (pat : List Value) : Prop := ∃ L : List Value, W.heap[S]? = some (.cells L.toArray T (0, 0)) ∧ L.length = n * size ∧ ∀ j, j < k * size → L[j]? = pat[j % size]?
theorem mk0 {w w1 : World} {S base T size n b off : Nat} {xs pat : List Value} (hown : w1.ownsRow base T size (.slice (some ⟨S, 0, none⟩) n n) n xs) (hg : w.grownBy w1 none) (hb : b < w.heap.size)
    (hsrc : Hid (∀ j v, pat[j]? = some v → w.cell? ((⟨b, off, none⟩ : Addr).add j) = some v)) :
    ∃ L : List Value, Hid (w1.heap[S]? = some (.cells L.toArray T (0, 0))) ∧ L.length = n * size ∧ Hid (∀ j v, pat[j]? = some v → w1.cell? ((⟨b, off, none⟩ : Addr).add j) = some v) := by
  rcases hown.2 with ⟨h, _⟩ | ⟨g, cap, cur, h1, _, h3, _, _, h6, _⟩
  · cases h
  · injection h1 with e1 e2 e3
    injection e1 with e1
    injection e1 with e1
    subst e1
    subst e3
    refine ⟨cur.toList, Lib.hid (by simpa using h3), by simpa using h6, Lib.hid fun j v hj => ?_⟩
    rw [World.cell?_of_block (hg.block _ (by rw [block_of_add]; exact hb) (by simp))]
    exact hsrc.out j v hj
theorem rp_one {w : World} {S T size n : Nat} {L pat : List Value} (h : w.heap[S]? = some (.cells (splice L 0 pat).toArray T (0, 0))) (hl : L.length = n * size) (hp : pat.length = size) (hn : 1 ≤ n) : Rp w S T size n 1 pat := by
  refine ⟨_, h, ?_, fun j hj => ?_⟩
  · rw [length_splice _ _ _ (by rw [hp, hl, Nat.zero_add]; exact Nat.le_mul_of_pos_left _ hn), hl]
  · rw [Nat.one_mul] at hj
    rw [Nat.mod_eq_of_lt hj]
    simp [splice, List.getElem?_append, hp, hj]
theorem rp_more {w : World} {S T size n k m : Nat} {L pat : List Value} (h : w.heap[S]? = some (.cells (splice L (k * size) (L.take (m * size))).toArray T (0, 0))) (hl : L.length = n * size) (hL : ∀ j, j < k * size → L[j]? = pat[j % size]?)
    (hmk : m ≤ k) (hmn : k + m ≤ n) : Rp w S T size n (k + m) pat := by
  have e1 : m * size ≤ k * size := Nat.mul_le_mul_right _ hmk
  have e2 : k * size + m * size ≤ n * size := by rw [← Nat.add_mul]; exact Nat.mul_le_mul_right _ hmn
  refine ⟨_, h, ?_, fun j hj => ?_⟩
  · rw [length_splice _ _ _ (by simp; omega), hl]
  · rw [Nat.add_mul] at hj
    unfold splice
    by_cases hjk : j < k * size
    · rw [List.getElem?_append_left (by simp; omega), List.getElem?_take_of_lt hjk]
      exact hL j hjk
    · rw [List.getElem?_append_right (by simp; omega), List.getElem?_append_left (by simp; omega), List.getElem?_take_of_lt (by simp; omega)]
      rw [List.length_take, show min (k * size) L.length = k * size by omega, hL _ (by omega)]
      congr 1
      rw [Nat.mul_comm, Nat.sub_mul_mod (by rw [Nat.mul_comm]; omega)]
theorem min_one {n : Nat} (h : 1 ≤ n) : Nat.min 1 n = 1 := by simp only [Nat.min_def]; split <;> omega

theorem info68 : (Tryd.prog.info? 68).map (fun i => (i.zero, i.size, i.bytes)) = some (some (.agg #[I 0, I 0]), 2, 16) := by kernel_rfl
set_option maxRecDepth 100000 in
set_option maxHeartbeats 4000000 in
theorem repeat67 (b off c : Nat) (x1 x2 : Int) (n : Nat) (w : World) (hn : 1 ≤ n ∧ n ≤ 4000) (hb : b < w.heap.size) (hsrc : ∀ j v, [I x1, I x2][j]? = some v → w.cell? ((⟨b, off, none⟩ : Addr).add j) = some v)
    (hmul : ∀ W, Calls Tryd.prog 90 #[.int .u64 1, .int .u64 n] W fun e w' => e = .returned (.tuple #[.int .u64 0, .int .u64 n]) ∧ W = w') :
    Calls Tryd.prog 67 #[.slice (some ⟨b, off, none⟩) 1 c, I n] w fun e w' => e = .returned (.slice (some ⟨w.heap.size, 0, none⟩) n n) ∧ Below w.heap.size w w' ∧ Rp w' w.heap.size 68 2 n n [I x1, I x2] := by
  obtain ⟨i0, hi0, hi1, hi2, hi3⟩ := info_parts info68
  have hu : Tryd.prog.underlying 63 = some (.slice 68) := Tryd.underlying63
  have hsz : (Tryd.prog.info? 68).map (·.size) = some 2 := by rw [hi0]; exact congrArg some hi2
  have HU := Lib.hid hu; have HI0 := Lib.hid hi0; have HI1 := Lib.hid hi1; have HI2 := Lib.hid hi2; have HI3 := Lib.hid hi3; have HSZ := Lib.hid hsz
  have HSRC := Lib.hid hsrc
  have HM := Lib.hid hmul
  clear hu hi0 hi1 hi2 hi3 hsz hmul hsrc
  have HP : Hid (∀ v ∈ [I x1, I x2], v.oneCell' = true) := Lib.hid (by simp [Value.oneCell'])
  obtain ⟨pat, hpat⟩ : ∃ pat, pat = [I x1, I x2] := ⟨_, rfl⟩
  have hpl : Hid (pat.length = 2) := Lib.hid (by rw [hpat]; rfl)
  rw [← hpat] at HSRC HP ⊢
  clear hpat
  obtain ⟨hn1, hn2⟩ := hn
  have hcv : IntKind.u64.wrap (n : Int) = n := by simp [IntKind.wrap, IntKind.bits, IntKind.signed]; omega
  have hcw : IntKind.i64.wrap (n : Int) = n := IntWalk.i64_in _ (by omega)
  go_enter Tryd.func67, Tryd.ntmps67
  go_wp2_with (first
    | (go_at_call 90; refine (HM.out _).mono ?_; rintro e w1 ⟨rfl, rfl⟩)
    | (at_make; refine wpList_make_full _ rfl _ _ 63 rfl w.heap.size 68 i0 (.agg #[I 0, I 0]) 2 HU.out HI0.out HI1.out HI2.out .i64 .i64 n n n rfl rfl rfl rfl (by rw [HI3.out]; omega) (by unfold maxLen; omega) (Nat.le_refl _) ?_; intro w1 hown hg; obtain ⟨L0, HB0, hl0, HS1⟩ := mk0 hown hg hb HSRC; clear hown)
    | (refine wpList_copy_k rfl _ _ 63 63 rfl 68 2 HU.out HSZ.out w.heap.size 0 n n ⟨b, off, none⟩ 1 c 1 rfl rfl (min_one hn1) _ 68 HB0.out pat hpl.out HS1.out (by rw [hpl.out]; omega) HP.out ?_; intro w2 hw2 hg2; have HB2 := Lib.hid hw2; clear hw2)
    | fail)
  have hB2 : Below w.heap.size w w2 := ((Below.refl _ w).grown hg (Nat.le_refl _) (fun k e => by cases e)).grown hg2 (hg.size) (fun k e => by cases e; exact Nat.le_refl _)
  have hR2 : Hid (Rp w2 w.heap.size 68 2 n 1 pat) := Lib.hid (rp_one HB2.out hl0 hpl.out hn1)
  clear hg hg2 HB2 HB0
  go_loopw [8] (fun s wr => ∃ k : Nat, 1 ≤ k ∧ k ≤ n ∧ s = I k ∧ Below w.heap.size w wr ∧ Hid (Rp wr w.heap.size 68 2 n k pat)) (fun s _ => n - (intOf s).toNat)
  case atStart => exact ⟨1, Nat.le_refl _, hn1, rfl, hB2, hR2⟩
  case round =>
    clear hR2 hB2
    obtain ⟨k, hk1, hk, rfl, hB, HR⟩ := hrel
    by_cases hlt : k < n
    · obtain ⟨m, hm⟩ : ∃ m, m = Nat.min k (n - k) := ⟨_, rfl⟩
      have hm1 : 1 ≤ m ∧ m ≤ k ∧ m ≤ n - k := by rw [hm]; simp only [Nat.min_def]; split <;> omega
      have HMM := Lib.hid hm
      clear hm
      obtain ⟨hm1, hm2, hm3⟩ := hm1
      obtain ⟨L, hL, hll, hLp⟩ := HR.out
      have HL := Lib.hid hL
      have HLP := Lib.hid hLp
      clear hL hLp
      have hadd : IntKind.i64.wrap ((k : Int) + (m : Int)) = ((k + m : Nat) : Int) := by rw [IntWalk.i64_in _ (by omega)]; omega
      have b0 : (0 : Int) ≤ (k : Int) := by omega
      have b1 : (k : Int) ≤ (n : Int) := by omega
      have hnk : ¬ n = k := by omega
      go_wp2_with (fail)
      refine (wpIn_wide (n := 9)).1 ?_
      refine wpIn_region_plan (Plan.ons [0, 1, 2, 3, 4, 5, 6, 7, 8, 9] .fin) [0] (fun _ => True) [] rfl (by kernel_rfl) (by kernel_rfl) (fun _ d _ _ _ h => by cases d <;> exact h) trivial ?_
      (refine ordQ_held (I k) rfl rfl rfl rfl (fun W' hC' => ?_) (fun K hK => ?_); (focus (obtain _ := hC'; go_simp; try exact ⟨rfl, rfl⟩)); go_simp; refine hK _ ?_; clear hK K)
      iterate 6 (refine ordQ_li rfl rfl rfl (fun K hK => ?_); go_simp; refine hK _ ?_; clear hK K)
      refine ordQ_hv rfl rfl rfl (fun K hK => ?_)
      refine opIn_copy_k rfl _ _ _ 63 63 rfl 68 2 HU.out HSZ.out w.heap.size (k * 2) (n - k) (n - k) ⟨w.heap.size, 0, none⟩ k n m rfl rfl HMM.out.symm L 68 HL.out (L.take (m * 2)) (by simp; omega) (fun j v hj => ?_) (by simp; omega) ?_ ?_
      · have hj2 : L[j]? = some v := by
          rw [List.getElem?_take] at hj
          split at hj
          · exact hj
          · cases hj
        rw [Addr.add_lit, Nat.zero_add]
        exact block_cells (w := wr.drew) HL.out j v hj2
      · intro v hv
        obtain ⟨j, hj⟩ := List.mem_iff_getElem?.1 hv
        rw [List.getElem?_take] at hj
        split at hj
        · rw [HLP.out j (by have : m * 2 ≤ k * 2 := Nat.mul_le_mul_right _ hm2; omega)] at hj
          exact HP.out v (List.mem_of_getElem? hj)
        · cases hj
      intro w3 hw3 hg3
      have hR3 : Hid (Rp w3 w.heap.size 68 2 n (k + m) pat) := Lib.hid (rp_more (by (try simp only [Nat.mul_one] at hw3 ⊢); exact hw3) hll HLP.out hm2 (by omega))
      have hB3 : Below w.heap.size w w3 := hB.drew.grown hg3 hB.size (fun j e => by cases e; exact Nat.le_refl _)
      clear hw3 hg3
      refine hK _ _ (fun _ => trivial) ?_
      clear hK K
      iterate 2 (refine ordQ_li rfl rfl rfl (fun K hK => ?_); go_simp; refine hK _ ?_; clear hK K)
      refine ordQ_fin ?_
      go_wp2
      go_roundw
      case rel => exact ⟨k + m, by omega, by omega, by go_num, hB3, hR3⟩
      case measure => simp [intOf]; omega
    · obtain rfl : n = k := by omega
      go_wp2
      go_ret
      exact ⟨rfl, hB, HR.out⟩

theorem info3 : (Tryd.prog.info? 3).map (fun i => (i.zero, i.size, i.bytes)) = some (some (I 0), 1, 8) := by kernel_rfl
set_option maxRecDepth 100000 in
set_option maxHeartbeats 4000000 in
theorem repeat68 (b off c : Nat) (x1 : Int) (n : Nat) (w : World) (hn : 1 ≤ n ∧ n ≤ 4000) (hb : b < w.heap.size) (hsrc : ∀ j v, [I x1][j]? = some v → w.cell? ((⟨b, off, none⟩ : Addr).add j) = some v)
    (hmul : ∀ W, Calls Tryd.prog 90 #[.int .u64 1, .int .u64 n] W fun e w' => e = .returned (.tuple #[.int .u64 0, .int .u64 n]) ∧ W = w') :
    Calls Tryd.prog 68 #[.slice (some ⟨b, off, none⟩) 1 c, I n] w fun e w' => e = .returned (.slice (some ⟨w.heap.size, 0, none⟩) n n) ∧ Below w.heap.size w w' ∧ Rp w' w.heap.size 3 1 n n [I x1] := by
  obtain ⟨i0, hi0, hi1, hi2, hi3⟩ := info_parts info3
  have hu : Tryd.prog.underlying 26 = some (.slice 3) := Tryd.underlying26
  have hsz : (Tryd.prog.info? 3).map (·.size) = some 1 := by rw [hi0]; exact congrArg some hi2
  have HU := Lib.hid hu; have HI0 := Lib.hid hi0; have HI1 := Lib.hid hi1; have HI2 := Lib.hid hi2; have HI3 := Lib.hid hi3; have HSZ := Lib.hid hsz
  have HSRC := Lib.hid hsrc
  have HM := Lib.hid hmul
  clear hu hi0 hi1 hi2 hi3 hsz hmul hsrc
  have HP : Hid (∀ v ∈ [I x1], v.oneCell' = true) := Lib.hid (by simp [Value.oneCell'])
  obtain ⟨pat, hpat⟩ : ∃ pat, pat = [I x1] := ⟨_, rfl⟩
  have hpl : Hid (pat.length = 1) := Lib.hid (by rw [hpat]; rfl)
  rw [← hpat] at HSRC HP ⊢
  clear hpat
  obtain ⟨hn1, hn2⟩ := hn
  have hcv : IntKind.u64.wrap (n : Int) = n := by simp [IntKind.wrap, IntKind.bits, IntKind.signed]; omega
  have hcw : IntKind.i64.wrap (n : Int) = n := IntWalk.i64_in _ (by omega)
  go_enter Tryd.func68, Tryd.ntmps68
  go_wp2_with (first
    | (go_at_call 90; refine (HM.out _).mono ?_; rintro e w1 ⟨rfl, rfl⟩)
    | (at_make; refine wpList_make_full _ rfl _ _ 26 rfl w.heap.size 3 i0 (I 0) 1 HU.out HI0.out HI1.out HI2.out .i64 .i64 n n n rfl rfl rfl rfl (by rw [HI3.out]; omega) (by unfold maxLen; omega) (Nat.le_refl _) ?_; intro w1 hown hg; obtain ⟨L0, HB0, hl0, HS1⟩ := mk0 hown hg hb HSRC; clear hown)
    | (refine wpList_copy_k rfl _ _ 26 26 rfl 3 1 HU.out HSZ.out w.heap.size 0 n n ⟨b, off, none⟩ 1 c 1 rfl rfl (min_one hn1) _ 3 HB0.out pat hpl.out HS1.out (by rw [hpl.out]; omega) HP.out ?_; intro w2 hw2 hg2; have HB2 := Lib.hid hw2; clear hw2)
    | fail)
  have hB2 : Below w.heap.size w w2 := ((Below.refl _ w).grown hg (Nat.le_refl _) (fun k e => by cases e)).grown hg2 (hg.size) (fun k e => by cases e; exact Nat.le_refl _)
  have hR2 : Hid (Rp w2 w.heap.size 3 1 n 1 pat) := Lib.hid (rp_one HB2.out hl0 hpl.out hn1)
  clear hg hg2 HB2 HB0
  go_loopw [8] (fun s wr => ∃ k : Nat, 1 ≤ k ∧ k ≤ n ∧ s = I k ∧ Below w.heap.size w wr ∧ Hid (Rp wr w.heap.size 3 1 n k pat)) (fun s _ => n - (intOf s).toNat)
  case atStart => exact ⟨1, Nat.le_refl _, hn1, rfl, hB2, hR2⟩
  case round =>
    clear hR2 hB2
    obtain ⟨k, hk1, hk, rfl, hB, HR⟩ := hrel
    by_cases hlt : k < n
    · obtain ⟨m, hm⟩ : ∃ m, m = Nat.min k (n - k) := ⟨_, rfl⟩
      have hm1 : 1 ≤ m ∧ m ≤ k ∧ m ≤ n - k := by rw [hm]; simp only [Nat.min_def]; split <;> omega
      have HMM := Lib.hid hm
      clear hm
      obtain ⟨hm1, hm2, hm3⟩ := hm1
      obtain ⟨L, hL, hll, hLp⟩ := HR.out
      have HL := Lib.hid hL
      have HLP := Lib.hid hLp
      clear hL hLp
      have hadd : IntKind.i64.wrap ((k : Int) + (m : Int)) = ((k + m : Nat) : Int) := by rw [IntWalk.i64_in _ (by omega)]; omega
      have b0 : (0 : Int) ≤ (k : Int) := by omega
      have b1 : (k : Int) ≤ (n : Int) := by omega
      have hnk : ¬ n = k := by omega
      go_wp2_with (fail)
      refine (wpIn_wide (n := 9)).1 ?_
      refine wpIn_region_plan (Plan.ons [0, 1, 2, 3, 4, 5, 6, 7, 8, 9] .fin) [0] (fun _ => True) [] rfl (by kernel_rfl) (by kernel_rfl) (fun _ d _ _ _ h => by cases d <;> exact h) trivial ?_
      (refine ordQ_held (I k) rfl rfl rfl rfl (fun W' hC' => ?_) (fun K hK => ?_); (focus (obtain _ := hC'; go_simp; try exact ⟨rfl, rfl⟩)); go_simp; refine hK _ ?_; clear hK K)
      iterate 6 (refine ordQ_li rfl rfl rfl (fun K hK => ?_); go_simp; refine hK _ ?_; clear hK K)
      refine ordQ_hv rfl rfl rfl (fun K hK => ?_)
      refine opIn_copy_k rfl _ _ _ 26 26 rfl 3 1 HU.out HSZ.out w.heap.size k (n - k) (n - k) ⟨w.heap.size, 0, none⟩ k n m rfl rfl HMM.out.symm L 3 HL.out (L.take (m * 1)) (by simp; omega) (fun j v hj => ?_) (by simp; omega) ?_ ?_
      · have hj2 : L[j]? = some v := by
          rw [List.getElem?_take] at hj
          split at hj
          · exact hj
          · cases hj
        rw [Addr.add_lit, Nat.zero_add]
        exact block_cells (w := wr.drew) HL.out j v hj2
      · intro v hv
        obtain ⟨j, hj⟩ := List.mem_iff_getElem?.1 hv
        rw [List.getElem?_take] at hj
        split at hj
        · rw [HLP.out j (by have : m * 1 ≤ k * 1 := Nat.mul_le_mul_right _ hm2; omega)] at hj
          exact HP.out v (List.mem_of_getElem? hj)
        · cases hj
      intro w3 hw3 hg3
      have hR3 : Hid (Rp w3 w.heap.size 3 1 n (k + m) pat) := Lib.hid (rp_more (by (try simp only [Nat.mul_one] at hw3 ⊢); exact hw3) hll HLP.out hm2 (by omega))
      have hB3 : Below w.heap.size w w3 := hB.drew.grown hg3 hB.size (fun j e => by cases e; exact Nat.le_refl _)
      clear hw3 hg3
      refine hK _ _ (fun _ => trivial) ?_
      clear hK K
      iterate 2 (refine ordQ_li rfl rfl rfl (fun K hK => ?_); go_simp; refine hK _ ?_; clear hK K)
      refine ordQ_fin ?_
      go_wp2
      go_roundw
      case rel => exact ⟨k + m, by omega, by omega, by go_num, hB3, hR3⟩
      case measure => simp [intOf]; omega
    · obtain rfl : n = k := by omega
      go_wp2
      go_ret
      exact ⟨rfl, hB, HR.out⟩
end Go.Proofs.YtgdilbilhajgaaaDoor
