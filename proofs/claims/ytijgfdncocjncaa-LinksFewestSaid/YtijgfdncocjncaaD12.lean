/- The document's choose: all lists of so many of some, in order. -/
import Derived.Test.YtijgfdncocjncaaD11
namespace Go.Proofs.Ytijgfdncocjncaa
set_option linter.unusedVariables false
set_option linter.unusedSimpArgs false
open Go Go.RowKit

theorem info33 : (Try.prog.info? 33).map (fun i => (i.zero, i.size, i.bytes)) = some (some (.slice none 0 0), 1, 24) := by kernel_rfl
theorem own_lenS {w : World} {base n k c size : Nat} {e : TypeId} {A : Option Addr} {v : Value} {xs : List Value} (h : w.ownsRow base e size v n xs) (hv : v = .slice A k c) : n = k := by
  rcases h.2 with ⟨h1, h2⟩ | ⟨g, cap, cur, h1, _⟩
  · rw [h1] at hv; cases hv; exact h2
  · rw [h1] at hv; cases hv; rfl
theorem natI_one {l : List Nat} : ∀ u ∈ natI l, u.oneCell' = true := fun u hu => by
  unfold natI at hu
  obtain ⟨i, _, rfl⟩ := List.mem_map.1 hu
  rfl
theorem own_at0 {w : World} {base n c : Nat} {e : TypeId} {A : Option Addr} {xs : List Value} (h : w.ownsRow base e 1 (.slice A n c) n xs) : 0 < n → ∃ ad, A = some ad ∧ ∀ j u, xs[j]? = some u → w.cell? (ad.add j) = some u := fun h0 => by
  rcases h.2 with ⟨h1, h2⟩ | ⟨g, cap, cur, h1, _⟩
  · omega
  · cases h1
    exact ⟨_, rfl, h.cells rfl⟩
theorem cells_grown {W W' : World} {g : Nat} {xs : List Value} {row : Option Nat} (hg : W.grownBy W' row) (hne : some g ≠ row) (h : ∀ j u, xs[j]? = some u → W.cell? ((⟨g, 0, none⟩ : Addr).add j) = some u) : ∀ j u, xs[j]? = some u → W'.cell? ((⟨g, 0, none⟩ : Addr).add j) = some u := fun j u hj => by
  have h1 := h j u hj
  rw [Addr.add_lit] at h1 ⊢
  exact hg.cell h1 hne
theorem cells_drew {W : World} {g : Nat} {xs : List Value} (h : ∀ j u, xs[j]? = some u → W.cell? ((⟨g, 0, none⟩ : Addr).add j) = some u) : ∀ j u, xs[j]? = some u → W.drew.cell? ((⟨g, 0, none⟩ : Addr).add j) = some u := h
def ChIs (base c : Nat) : Prop := ∀ (l : List Nat) (S : Option Addr) (cs : Nat) (b : List Nat) (Ab : Option Addr) (cb : Nat) (O : Value) (LL : List (List Nat)) (w : World), base ≤ w.heap.size → l.length ≤ cs → l.length ≤ 64 → b.length + c ≤ 64 → Ints w base S (l.map fun i : Nat => (i : Int)) → w.ownsRow 0 3 1 (.slice Ab b.length cb) b.length (natI b) → OutOk w base O LL → LL.length + (chs l c).length ≤ 100000 →
  Calls Try.prog 56 #[.slice S l.length cs, I c, .slice Ab b.length cb, O] w fun e w' => ∃ O', e = .returned O' ∧ OutOk w' base O' (LL ++ (chs l c).map (b ++ ·)) ∧ KeepI w w' ∧ Below base w w'
set_option maxRecDepth 100000 in
set_option maxHeartbeats 2000000 in
theorem choose_zero (base : Nat) : ChIs base 0 := fun l S cs b Ab cb O LL w hbz hcs hl64 hbc hS hb hO hlen => by
  have hch : chs l 0 = [[]] := by cases l <;> rfl
  rw [hch] at hlen ⊢
  simp only [List.length_cons, List.length_nil] at hlen
  obtain ⟨i0, hi0, hi1, hi2, hi3⟩ := info_parts info33
  obtain ⟨Vs, hr, hv⟩ := hO
  have HR := Lib.hid (hr.alloc (.cells #[.slice Ab b.length cb] 33))
  have HV := Lib.hid hv
  have HBB := Lib.hid hb
  have HRL := Lib.hid hr
  have u104 : Try.prog.underlying 104 = some (.slice 33) := by kernel_rfl
  simp only [List.map_cons, List.map_nil, List.append_nil]
  clear hS hr hv hb hch
  go_enter Try.func56, Try.ntmps56
  go_wp2_with (first
    | (at_builtin; refine wpList_append_own _ rfl _ _ 104 rfl base 33 i0 (.slice none 0 0) 1 24 u104 hi0 hi1 hi2 hi3 rfl (by decide) _ _ _ rfl HR.out ⟨w.heap.size, 0, none⟩ 1 1 [.slice Ab b.length cb] rfl rfl (cell_one3 w _ 33) (by simp [Value.oneCell']) (by unfold maxLen; omega) (by omega) (by simp; omega) ?_; intro v' w6 hown6 hg6 _)
    | fail)
  have hBa := below1 w (.cells #[.slice Ab b.length cb] 33)
  exact bodyPost_ret (v := v') (by simp [results, Try.results56, go_sem]) rfl ⟨v', rfl, OutOk.more HR.out (fun k hk => by obtain ⟨v, h1, h2⟩ := HV.out k hk; exact ⟨v, h1, grown_own h2 hBa⟩) (grown_own HBB.out hBa) (keep_grown HR.out hg6) hown6, (keep_below hBa).trans (keep_grown HR.out hg6), ((Below.refl base w).alloc hbz _).grown hg6 (by simp; omega) (fun g e => (HR.out.lt g e).1)⟩
set_option maxRecDepth 100000 in
set_option maxHeartbeats 8000000 in
theorem choose_step (base c : Nat) (ih : ChIs base c) : ChIs base (c + 1) := fun l S cs b Ab cb O LL w hbz hcs hl64 hbc hS hb hO hlen => by
  obtain ⟨i0, hi0, hi1, hi2, hi3⟩ := info_parts info3
  have HIH := Lib.hid ih
  have HS := Lib.hid hS
  have HBB := Lib.hid hb
  have HO := Lib.hid hO
  have HST := Lib.hid fun (i : Nat) (h : i < l.length) => chs_step h c b
  have HLN := Lib.hid hlen
  have HEND : Hid ((chs (l.drop l.length) (c + 1)).map (b ++ ·) = []) := Lib.hid (by rw [List.drop_length]; rfl)
  have hc0 : ¬ (c : Int) + 1 = 0 := by omega
  have hcb : ((c : Int) + 1 == 0) = false := by simpa using hc0
  have hwc : IntKind.i64.wrap ((c : Int) + 1 - 1) = (c : Int) := by rw [show (c : Int) + 1 - 1 = (c : Int) by omega]; exact IntWalk.i64_in _ (by omega)
  have hwc2 : IntKind.i64.wrap (c : Int) = (c : Int) := IntWalk.i64_in _ (by omega)
  rw [show ((c + 1 : Nat) : Int) = (c : Int) + 1 by omega]
  clear ih hS hb hO hlen
  go_enter Try.func56, Try.ntmps56
  go_wp2_with (fail)
  go_loopw [3, 9] (fun s3 s9 wr => ∃ (i : Nat) (LLi : List (List Nat)), i ≤ l.length ∧ s9 = I i ∧ Below base w wr ∧ Hid (OutOk wr base s3 LLi) ∧ Hid (KeepI w wr) ∧ Hid (LLi ++ (chs (l.drop i) (c + 1)).map (b ++ ·) = LL ++ (chs l (c + 1)).map (b ++ ·))) (fun _ s _ => l.length - (intOf s).toNat)
  case atStart => exact ⟨0, LL, by omega, rfl, Below.refl _ _, HO, Lib.hid (KeepI.refl _), Lib.hid rfl⟩
  case round =>
    obtain ⟨i, LLi, hi, rfl, hB, HOi, HK, HEQ⟩ := hrel
    have hzr := hB.size
    by_cases hlt : i < l.length
    · obtain ⟨sb, so, rfl, hsz, hsc⟩ := HS.out (by rw [List.length_map]; omega)
      have hsk := hsc i (by rw [List.length_map]; exact hlt)
      rw [List.getElem_map] at hsk
      have HSTi := Lib.hid (HST.out i hlt)
      have hb0 := HK.out _ _ _ HBB.out
      have HSr : Hid (∀ W, Below wr.heap.size wr W → Ints W base (if cs = i + 1 then (some ⟨sb, so, none⟩ : Option Addr) else (some ⟨sb, so, none⟩ : Option Addr).map (·.add (i + 1))) ((l.drop (i + 1)).map fun i : Nat => (i : Int))) := Lib.hid fun W hW => by
        rw [List.map_drop]
        exact ints_dropI ((HS.out.below hB).below (hW.mono (by omega))) (by rw [List.length_map]) hcs hlt
      generalize l[i] = f at *
      have p0 : (0 : Int) ≤ (i : Int) := by omega
      have p1 : (i : Int) < (l.length : Int) := by omega
      have hbr : base ≤ wr.heap.size := by omega
      have hwj : IntKind.i64.wrap ((i : Int) + 1) = (i : Int) + 1 := IntWalk.i64_in _ (by omega)
      have h33 := fun W => slice33 (some ⟨sb, so, none⟩) l.length cs i (by omega) W
      obtain ⟨R', hR'⟩ : ∃ R', (if cs = i + 1 then (some ⟨sb, so, none⟩ : Option Addr) else (some ⟨sb, so, none⟩ : Option Addr).map (·.add (i + 1))) = R' := ⟨_, rfl⟩
      rw [hR'] at h33 HSr
      have HEQ2 : Hid ((LLi ++ (chs (l.drop (i + 1)) c).map ((b ++ [f]) ++ ·)) ++ (chs (l.drop (i + 1)) (c + 1)).map (b ++ ·) = LL ++ (chs l (c + 1)).map (b ++ ·)) := Lib.hid (by rw [List.append_assoc, ← HSTi.out, HEQ.out])
      have HCS : Hid (∀ W, Below wr.heap.size wr W → W.cell? ⟨sb, so + i, none⟩ = some (I f)) := Lib.hid fun W hW => ((hB.trans (hW.mono (by omega))).cell (p := ⟨sb, _, none⟩) hsz).trans hsk
      have HNX : Hid (∀ (A36 : Option Addr) (c36 : Nat) (W : World), Below wr.heap.size wr W → W.ownsRow 0 3 1 (.slice A36 (b.length + 1) c36) (b.length + 1) (natI b ++ [I f]) →
          Calls Try.prog 56 #[.slice R' (l.length - (i + 1)) (cs - (i + 1)), I c, .slice A36 (b.length + 1) c36, u3] W fun e w' => ∃ O', e = .returned O' ∧ OutOk w' base O' (LLi ++ (chs (l.drop (i + 1)) c).map ((b ++ [f]) ++ ·)) ∧ KeepI W w' ∧ Below base W w') := Lib.hid fun A36 c36 W hW h36 => by
        have h := HIH.out (l.drop (i + 1)) R' (cs - (i + 1)) (b ++ [f]) A36 c36 u3 LLi W (Nat.le_trans hbr hW.size) (by rw [List.length_drop]; omega) (by rw [List.length_drop]; omega) (by simp; omega) (HSr.out W hW) (by rw [List.length_append]; simpa [natI] using h36) (HOi.out.below hW) (by
          have e := congrArg List.length HEQ2.out
          simp only [List.length_append, List.length_map] at e
          have := HLN.out
          omega)
        rw [List.length_drop, List.length_append] at h
        exact h
      obtain ⟨O, hOO⟩ : ∃ O, u3 = O := ⟨_, rfl⟩
      rw [hOO] at HNX ⊢
      clear hsc hsk hR' HSr HSTi HST HIH HS HEQ HOi
      go_wp2_with (fail)
      refine (wpIn_wide (n := 9)).1 ?_
      refine wpIn_region_plan (Plan.ons [0, 1, 2, 3, 4, 5, 7, 9, 10, 11, 12, 15] (.two 6 (.two 8 (.one 13 (Plan.ons [14, 16, 17] .fin)) 13 (.one 8 (Plan.ons [14, 16, 17] .fin))) 13 (.one 6 (.one 8 (Plan.ons [14, 16, 17] .fin))))) [0, 1, 2, 3, 4, 5, 7, 9, 10, 11, 12, 15] (fun W => Below wr.heap.size wr W) [16] rfl (by kernel_rfl) (by kernel_rfl) (fun _ d _ _ _ h => by cases d <;> exact h) (Below.refl _ _).drew ?_
      (refine ordQ_held (.slice (some ⟨sb, so, none⟩) l.length cs) rfl rfl rfl rfl (fun W' hC' => ?_) (fun K hK => ?_); (focus (obtain g0 := HCS.out _ hC'; go_simp; try exact ⟨rfl, rfl⟩)); go_simp; refine hK _ ?_; clear hK K)
      (refine ordQ_held (I i) rfl rfl rfl rfl (fun W' hC' => ?_) (fun K hK => ?_); (focus (obtain g0 := HCS.out _ hC'; go_simp; try exact ⟨rfl, rfl⟩)); go_simp; refine hK _ ?_; clear hK K)
      (refine ordQ_held (I ((i : Int) + 1)) rfl rfl rfl rfl (fun W' hC' => ?_) (fun K hK => ?_); (focus (obtain g0 := HCS.out _ hC'; go_simp; try exact ⟨rfl, rfl⟩)); go_simp; refine hK _ ?_; clear hK K)
      (refine ordQ_held (.slice R' (l.length - (i + 1)) (cs - (i + 1))) rfl rfl rfl rfl (fun W' hC' => ?_) (fun K hK => ?_); (focus (obtain g0 := HCS.out _ hC'; go_simp; try exact ⟨rfl, rfl⟩)); go_simp; refine hK _ ?_; clear hK K)
      (refine ordQ_held (I ((c : Int) + 1)) rfl rfl rfl rfl (fun W' hC' => ?_) (fun K hK => ?_); (focus (obtain g0 := HCS.out _ hC'; go_simp; try exact ⟨rfl, rfl⟩)); go_simp; refine hK _ ?_; clear hK K)
      (refine ordQ_held (I c) rfl rfl rfl rfl (fun W' hC' => ?_) (fun K hK => ?_); (focus (obtain g0 := HCS.out _ hC'; go_simp; try exact ⟨rfl, rfl⟩)); go_simp; refine hK _ ?_; clear hK K)
      (refine ordQ_held (.slice Ab b.length cb) rfl rfl rfl rfl (fun W' hC' => ?_) (fun K hK => ?_); (focus (obtain g0 := HCS.out _ hC'; go_simp; try exact ⟨rfl, rfl⟩)); go_simp; refine hK _ ?_; clear hK K)
      (refine ordQ_held (.slice (some ⟨sb, so, none⟩) l.length cs) rfl rfl rfl rfl (fun W' hC' => ?_) (fun K hK => ?_); (focus (obtain g0 := HCS.out _ hC'; go_simp; try exact ⟨rfl, rfl⟩)); go_simp; refine hK _ ?_; clear hK K)
      (refine ordQ_held (I i) rfl rfl rfl rfl (fun W' hC' => ?_) (fun K hK => ?_); (focus (obtain g0 := HCS.out _ hC'; go_simp; try exact ⟨rfl, rfl⟩)); go_simp; refine hK _ ?_; clear hK K)
      (refine ordQ_held (.pointer (some ⟨sb, so + i, none⟩)) rfl rfl rfl rfl (fun W' hC' => ?_) (fun K hK => ?_); (focus (obtain g0 := HCS.out _ hC'; go_simp; try exact ⟨rfl, rfl⟩)); go_simp; refine hK _ ?_; clear hK K)
      (refine ordQ_held (I f) rfl rfl rfl rfl (fun W' hC' => ?_) (fun K hK => ?_); (focus (obtain g0 := HCS.out _ hC'; go_simp; try exact ⟨rfl, rfl⟩)); go_simp; refine hK _ ?_; clear hK K)
      (refine ordQ_held (O) rfl rfl rfl rfl (fun W' hC' => ?_) (fun K hK => ?_); (focus (obtain g0 := HCS.out _ hC'; go_simp; try exact ⟨rfl, rfl⟩)); go_simp; refine hK _ ?_; clear hK K)
      refine ordQ_two rfl rfl rfl rfl (fun K hK => ?_) (fun K hK => ?_)
      · gi_wp2
        have hBa : Below wr.heap.size wr (wr.alloc (.cells #[] 3)).drew := (below1 wr _).drew
        have hra : ((wr.alloc (.cells #[] 3)).drew).ownsRow wr.heap.size 3 1 (.slice (some ⟨wr.heap.size, 0, none⟩) 0 0) 0 [] := (World.ownsRow_made wr #[] 0 (Nat.le_refl _) (Nat.zero_le _) (by simp)).drew
        refine hK _ _ (fun _ => hBa) ?_
        clear hK K
        refine ordQ_two rfl rfl rfl rfl (fun K hK => ?_) (fun K hK => ?_)
        · refine opIn_append_any rfl _ _ _ 33 rfl wr.heap.size 3 i0 (I 0) 1 8 Try.underlying33 hi0 hi1 hi2 hi3 rfl (by decide) _ _ _ rfl hra Ab b.length cb (natI b) rfl (by rw [natI_len, Nat.mul_one]) (own_at0 (grown_own hb0 hBa)) natI_one (by unfold maxLen; omega) (by omega) hBa.size ?_
          intro v30 w30 hown30 hg30
          have hB30 : Below wr.heap.size wr w30 := hBa.grown hg30 hBa.size (fun g e => (hra.lt g e).1)
          have hw30 := hB30.size
          refine hK _ _ (fun _ => hB30) ?_
          clear hK K
          rw [Nat.zero_add, List.nil_append] at hown30
          refine ordQ_hv rfl rfl rfl (fun K hK => ?_)
          gi_wp2
          have HBX : Below wr.heap.size wr (w30.alloc (.cells #[I f] 3)) := hB30.alloc hw30 _
          refine hK _ _ (fun _ => HBX) ?_
          clear hK K
          have H30 := hown30.alloc (.cells #[I f] 3)
          have H35 := cell_one3 w30 (I f) 3
          clear hown30 hg30 hB30 hra hBa
          have hB36z := HBX.size
          refine ordQ_hv rfl rfl rfl (fun K hK => ?_)
          refine opIn_append_own rfl _ _ _ 33 rfl wr.heap.size 3 i0 (I 0) 1 8 Try.underlying33 hi0 hi1 hi2 hi3 rfl (by decide) _ _ _ rfl H30 ⟨w30.heap.size, 0, none⟩ 1 1 [I f] rfl rfl H35 (by simp [Value.oneCell']) (by unfold maxLen; omega) (by omega) hB36z ?_
          intro v36 w36 hown36 hg36 _
          have hB36 : Below wr.heap.size wr w36 := HBX.grown hg36 hB36z (fun g e => (H30.lt g e).1)
          refine hK _ _ (fun _ => hB36) ?_
          clear hK K
          obtain ⟨A36, k36, c36, hv36⟩ := own_slice hown36
          have hk36 := own_lenS hown36 hv36
          subst hk36
          subst hv36
          have HNXc := Lib.hid (HNX.out A36 c36 w36 hB36 (own_low hown36))
          clear hown36 hg36 H30 H35 HBX hB36z
          refine ordQ_hv rfl rfl rfl (fun K hK => ?_)
          gi_wp2_with (first | (refine And.intro trivial ?_; gi_at_call 56; refine (callsIn_wide.2 HNXc.out).mono ?_; rintro e w7 ⟨O7, rfl, hO7, hK7, hB7⟩) | fail)
          refine hK _ _ (fun h => by cases h) ?_
          clear hK K
          (refine ordQ_li rfl rfl rfl (fun K hK => ?_); go_simp; refine hK _ ?_; clear hK K)
          refine ordQ_fin ?_
          have HB7 : Hid (Below base w w7) := Lib.hid ((hB.trans (hB36.mono hbr)).trans hB7)
          have HK7 : Hid (KeepI w w7) := Lib.hid ((HK.out.trans (keep_below hB36)).trans hK7)
          have HO7 := Lib.hid hO7
          clear hB36 hB7 hK7 hO7 HNXc HNX HCS
          go_wp2_with (fail)
          go_roundw
          case rel => first | exact ⟨i + 1, _, by omega, by go_num, HB7.out, HO7, HK7, HEQ2⟩ | ((repeat apply Exists.intro); refine ⟨?_, rfl⟩; exact ⟨i + 1, _, by omega, by go_num, HB7.out, HO7, HK7, HEQ2⟩)
          case measure => first | (simp [intOf]; done) | (simp [intOf]; omega)
        · gi_wp2
          have hBb : Below wr.heap.size wr ((wr.alloc (.cells #[] 3)).drew.alloc (.cells #[I f] 3)) := hBa.alloc hBa.size _
          refine hK _ _ (fun _ => hBb) ?_
          clear hK K
          have H35 : ∀ j u, [I f][j]? = some u → ((wr.alloc (.cells #[] 3)).drew.alloc (.cells #[I f] 3)).cell? ((⟨wr.heap.size + 1, 0, none⟩ : Addr).add j) = some u := by
            have h := cell_one3 (wr.alloc (.cells #[] 3)).drew (I f) 3
            rwa [show (wr.alloc (.cells #[] 3)).drew.heap.size = wr.heap.size + 1 by simp] at h
          have hrb := hra.alloc (.cells #[I f] 3)
          refine ordQ_hv rfl rfl rfl (fun K hK => ?_)
          refine opIn_append_any rfl _ _ _ 33 rfl wr.heap.size 3 i0 (I 0) 1 8 Try.underlying33 hi0 hi1 hi2 hi3 rfl (by decide) _ _ _ rfl hrb Ab b.length cb (natI b) rfl (by rw [natI_len, Nat.mul_one]) (own_at0 (grown_own hb0 hBb)) natI_one (by unfold maxLen; omega) (by omega) hBb.size ?_
          intro v30 w30 hown30 hg30
          replace hg30 : ((wr.alloc (.cells #[] 3)).drew.alloc (.cells #[I f] 3)).grownBy w30 (some wr.heap.size) := hg30
          have HBX : Below wr.heap.size wr w30 := hBb.grown hg30 hBb.size (fun g e => (hrb.lt g e).1)
          refine hK _ _ (fun _ => HBX) ?_
          clear hK K
          rw [Nat.zero_add, List.nil_append] at hown30
          have H30 := hown30
          replace H35 := cells_grown hg30 (by simp) H35
          clear hown30 hg30 hrb hra hBa hBb
          have hB36z := HBX.size
          refine ordQ_hv rfl rfl rfl (fun K hK => ?_)
          refine opIn_append_own rfl _ _ _ 33 rfl wr.heap.size 3 i0 (I 0) 1 8 Try.underlying33 hi0 hi1 hi2 hi3 rfl (by decide) _ _ _ rfl H30 ⟨wr.heap.size + 1, 0, none⟩ 1 1 [I f] rfl rfl H35 (by simp [Value.oneCell']) (by unfold maxLen; omega) (by omega) hB36z ?_
          intro v36 w36 hown36 hg36 _
          have hB36 : Below wr.heap.size wr w36 := HBX.grown hg36 hB36z (fun g e => (H30.lt g e).1)
          refine hK _ _ (fun _ => hB36) ?_
          clear hK K
          obtain ⟨A36, k36, c36, hv36⟩ := own_slice hown36
          have hk36 := own_lenS hown36 hv36
          subst hk36
          subst hv36
          have HNXc := Lib.hid (HNX.out A36 c36 w36 hB36 (own_low hown36))
          clear hown36 hg36 H30 H35 HBX hB36z
          refine ordQ_hv rfl rfl rfl (fun K hK => ?_)
          gi_wp2_with (first | (refine And.intro trivial ?_; gi_at_call 56; refine (callsIn_wide.2 HNXc.out).mono ?_; rintro e w7 ⟨O7, rfl, hO7, hK7, hB7⟩) | fail)
          refine hK _ _ (fun h => by cases h) ?_
          clear hK K
          (refine ordQ_li rfl rfl rfl (fun K hK => ?_); go_simp; refine hK _ ?_; clear hK K)
          refine ordQ_fin ?_
          have HB7 : Hid (Below base w w7) := Lib.hid ((hB.trans (hB36.mono hbr)).trans hB7)
          have HK7 : Hid (KeepI w w7) := Lib.hid ((HK.out.trans (keep_below hB36)).trans hK7)
          have HO7 := Lib.hid hO7
          clear hB36 hB7 hK7 hO7 HNXc HNX HCS
          go_wp2_with (fail)
          go_roundw
          case rel => first | exact ⟨i + 1, _, by omega, by go_num, HB7.out, HO7, HK7, HEQ2⟩ | ((repeat apply Exists.intro); refine ⟨?_, rfl⟩; exact ⟨i + 1, _, by omega, by go_num, HB7.out, HO7, HK7, HEQ2⟩)
          case measure => first | (simp [intOf]; done) | (simp [intOf]; omega)
      · gi_wp2
        have hBa : Below wr.heap.size wr (wr.alloc (.cells #[I f] 3)).drew := (below1 wr _).drew
        refine hK _ _ (fun _ => hBa) ?_
        clear hK K
        have H35 : ∀ j u, [I f][j]? = some u → ((wr.alloc (.cells #[I f] 3)).drew).cell? ((⟨wr.heap.size, 0, none⟩ : Addr).add j) = some u := cell_one3 wr (I f) 3
        refine ordQ_hv rfl rfl rfl (fun K hK => ?_)
        gi_wp2
        have hBb : Below wr.heap.size wr ((wr.alloc (.cells #[I f] 3)).drew.alloc (.cells #[] 3)) := hBa.alloc hBa.size _
        have hrb : (((wr.alloc (.cells #[I f] 3)).drew).alloc (.cells #[] 3)).ownsRow wr.heap.size 3 1 (.slice (some ⟨wr.heap.size + 1, 0, none⟩) 0 0) 0 [] := by
          have h := World.ownsRow_made (base := wr.heap.size) (e := 3) (size := 1) (wr.alloc (.cells #[I f] 3)).drew #[] 0 hBa.size (Nat.zero_le _) (by simp)
          rwa [show (wr.alloc (.cells #[I f] 3)).drew.heap.size = wr.heap.size + 1 by simp] at h
        replace H35 := cells_grown (World.grownBy_alloc _ (.cells #[] 3) none) (by simp) H35
        refine hK _ _ (fun _ => hBb) ?_
        clear hK K
        refine ordQ_hv rfl rfl rfl (fun K hK => ?_)
        refine opIn_append_any rfl _ _ _ 33 rfl wr.heap.size 3 i0 (I 0) 1 8 Try.underlying33 hi0 hi1 hi2 hi3 rfl (by decide) _ _ _ rfl hrb Ab b.length cb (natI b) rfl (by rw [natI_len, Nat.mul_one]) (own_at0 (grown_own hb0 hBb)) natI_one (by unfold maxLen; omega) (by omega) hBb.size ?_
        intro v30 w30 hown30 hg30
        replace hg30 : ((wr.alloc (.cells #[I f] 3)).drew.alloc (.cells #[] 3)).grownBy w30 (some (wr.heap.size + 1)) := hg30
        have HBX : Below wr.heap.size wr w30 := hBb.grown hg30 hBb.size (fun g e => (hrb.lt g e).1)
        refine hK _ _ (fun _ => HBX) ?_
        clear hK K
        rw [Nat.zero_add, List.nil_append] at hown30
        have H30 := hown30
        replace H35 := cells_grown hg30 (by simp) H35
        clear hown30 hg30 hrb hBa hBb
        have hB36z := HBX.size
        refine ordQ_hv rfl rfl rfl (fun K hK => ?_)
        refine opIn_append_own rfl _ _ _ 33 rfl wr.heap.size 3 i0 (I 0) 1 8 Try.underlying33 hi0 hi1 hi2 hi3 rfl (by decide) _ _ _ rfl H30 ⟨wr.heap.size, 0, none⟩ 1 1 [I f] rfl rfl H35 (by simp [Value.oneCell']) (by unfold maxLen; omega) (by omega) hB36z ?_
        intro v36 w36 hown36 hg36 _
        have hB36 : Below wr.heap.size wr w36 := HBX.grown hg36 hB36z (fun g e => (H30.lt g e).1)
        refine hK _ _ (fun _ => hB36) ?_
        clear hK K
        obtain ⟨A36, k36, c36, hv36⟩ := own_slice hown36
        have hk36 := own_lenS hown36 hv36
        subst hk36
        subst hv36
        have HNXc := Lib.hid (HNX.out A36 c36 w36 hB36 (own_low hown36))
        clear hown36 hg36 H30 H35 HBX hB36z
        refine ordQ_hv rfl rfl rfl (fun K hK => ?_)
        gi_wp2_with (first | (refine And.intro trivial ?_; gi_at_call 56; refine (callsIn_wide.2 HNXc.out).mono ?_; rintro e w7 ⟨O7, rfl, hO7, hK7, hB7⟩) | fail)
        refine hK _ _ (fun h => by cases h) ?_
        clear hK K
        (refine ordQ_li rfl rfl rfl (fun K hK => ?_); go_simp; refine hK _ ?_; clear hK K)
        refine ordQ_fin ?_
        have HB7 : Hid (Below base w w7) := Lib.hid ((hB.trans (hB36.mono hbr)).trans hB7)
        have HK7 : Hid (KeepI w w7) := Lib.hid ((HK.out.trans (keep_below hB36)).trans hK7)
        have HO7 := Lib.hid hO7
        clear hB36 hB7 hK7 hO7 HNXc HNX HCS
        go_wp2_with (fail)
        go_roundw
        case rel => first | exact ⟨i + 1, _, by omega, by go_num, HB7.out, HO7, HK7, HEQ2⟩ | ((repeat apply Exists.intro); refine ⟨?_, rfl⟩; exact ⟨i + 1, _, by omega, by go_num, HB7.out, HO7, HK7, HEQ2⟩)
        case measure => first | (simp [intOf]; done) | (simp [intOf]; omega)
    · obtain rfl : i = l.length := by omega
      have HEF : Hid (LLi = LL ++ (chs l (c + 1)).map (b ++ ·)) := Lib.hid (by rw [← HEQ.out, HEND.out, List.append_nil])
      go_wp2_with (fail)
      exact bodyPost_ret (v := u3) (by simp [results, Try.results56, go_sem]) rfl ⟨_, rfl, by rw [← HEF.out]; exact HOi.out, HK.out, hB⟩
theorem choose56 (base : Nat) : ∀ c, ChIs base c
  | 0 => choose_zero base
  | c + 1 => choose_step base c (choose56 base c)
end Go.Proofs.Ytijgfdncocjncaa
