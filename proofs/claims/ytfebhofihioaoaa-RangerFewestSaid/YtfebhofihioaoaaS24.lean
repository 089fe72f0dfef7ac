/- The fewest posts, of the program. -/
import Derived.Test.YtfebhofihioaoaaS23
import Derived.Laws.EntriesVeiled
import Derived.Lib.SliceRun
import Derived.OwnWalk
namespace Go.Proofs.Ytfebhofihioaoaa
set_option linter.unusedVariables false
set_option linter.unusedSimpArgs false
open Go Go.RowKit

/-- What 'Fewest' answers: the posts, and the kind of error. -/
noncomputable def fewR (x : Prk) : List Int × Int := if prkB x then (match fewV x with | some m => (m.map fun k : Nat => (k : Int), 0) | none => ([], 12)) else ([], 1)
set_option maxRecDepth 100000 in
set_option maxHeartbeats 1000000 in
theorem clone43 (b c : Nat) (l : List Int) (w : World) (hb : b < w.heap.size) (hl : ∀ k (h : k < l.length), w.cell? ⟨b, k, none⟩ = some (I l[k])) (h0 : 0 < l.length) (hn : l.length ≤ 1000) :
    Calls Try.prog 43 #[.slice (some ⟨b, 0, none⟩) l.length c] w fun e w' => ∃ (B : Option Addr) (d : Nat), e = .returned (.slice B l.length d) ∧ Ints w' w'.heap.size B l ∧ Below w.heap.size w w' := by
  obtain ⟨i0, hi, hi1, hi2, hi3⟩ := info_parts info3
  have u27 : Try.prog.underlying 27 = some (.slice 3) := Try.underlying27
  have HL : Hid (∀ (W : World), Below w.heap.size w W → ∀ j u, (l.map I)[j]? = some u → W.cell? ((⟨b, 0, none⟩ : Addr).add j) = some u) := Lib.hid fun W hW j u hj => by
    obtain ⟨hj', rfl⟩ := List.getElem?_eq_some_iff.1 hj
    rw [Addr.add_lit, Nat.zero_add]
    rw [List.length_map] at hj'
    rw [List.getElem_map]
    exact (hW.cell (p := ⟨b, j, none⟩) hb).trans (hl j hj')
  clear hl
  obtain ⟨n, hnn⟩ : ∃ n, l.length = n := ⟨_, rfl⟩
  have HN := Lib.hid hnn
  rw [hnn] at h0 hn ⊢
  clear hnn
  have q27 : ∀ (w : World) (a : Option Addr) (n c n' c' : Nat), (binOp .eql 27 (.slice a n c) (.slice none n' c')).run Try.prog w = .ok (.bool a.isNone) w := fun w a n c n' c' => Lib.run_eql_slice_nil w _ _ a n c n' c' u27
  go_enter Try.func43, Try.ntmps43
  go_wp2_with (at_builtin; refine wpList_append_own _ rfl _ _ 27 rfl w.heap.size 3 i0 (.int .i64 0) 1 8 u27 hi hi1 hi2 hi3 rfl (by decide) _ _ _ rfl (World.ownsRow_made w #[] 0 (Nat.le_refl _) (Nat.zero_le _) (by simp)) ⟨b, 0, none⟩ n c (l.map I) rfl (by rw [List.length_map, HN.out, Nat.mul_one]) ?qc2 ?qc3 ?qc4 ?qc5 ?qc6 ?_)
  case qc2 => exact HL.out _ (below1 _ _)
  case qc3 =>
    intro u hu
    obtain ⟨s, _, rfl⟩ := List.mem_map.1 hu
    rfl
  case qc4 => simp [maxLen]; omega
  case qc5 => omega
  case qc6 => simp
  intro v' w1 hown hgrow hnil
  have hB : Below w.heap.size w w1 := ((Below.refl _ w).alloc (Nat.le_refl _) _).grown hgrow (by simp) (by intro k hk; simp [Value.ownBlock] at hk; omega)
  have hown' : w1.ownsRow w.heap.size 3 1 v' n (l.map I) := by simpa using hown
  obtain ⟨B, d, hv, hI⟩ := ints_ownN hown' HN.out
  rw [HN.out] at hv
  subst hv
  have HI := Lib.hid hI
  clear hown hown' hgrow hnil hI
  go_wp2
  go_ret
  exact ⟨B, d, rfl, HI.out, hB⟩
theorem enough_zero {x : Prk} (hx : PrkOk x) (h : x.n = 0) : fnd (enoughB x) [] x.n 0 = some [] := by
  rw [h, fnd_zero, if_pos]
  rw [enoughB_iff]
  intro S hS
  rw [h] at hS
  obtain rfl : S = 0 := by omega
  rw [needV_zero (allNeed hx), forX_zero]
  exact Int.le_refl _
theorem fnd_mem {E : List Nat → Bool} {k left : Nat} {m : List Nat} (h : fnd E [] k left = some m) : m.length = k ∧ m.sum = left := by
  rw [fnd_nil] at h
  exact (mem_vecs _ _ _).1 (List.mem_of_find?_eq_some h)
theorem slice65 (F n : Nat) (hn : n ≤ 6) (w : World) : (Instr.sliceAt 65 (.pointer (some ⟨F, 0, none⟩)) none (some (.int .i64 n)) none).run Try.prog w = .ok (.slice (some ⟨F, 0, none⟩) n 6) w := by
  have hl : Try.prog.arrayLen 65 = 6 := by kernel_rfl
  have he : Try.prog.elem 65 = 3 := by kernel_rfl
  have hz : (Go.sizeOf 3).run Try.prog w = .ok 1 w := by kernel_rfl
  rw [run_sliceAt_array_h w 65 ⟨F, 0, none⟩ (by kernel_rfl) .i64 n (by omega) (by rw [hl]; omega), he, hz, hl]
  simp [Result.andThen, slicedAt, Addr.add]
set_option maxRecDepth 100000 in
set_option maxHeartbeats 1000000 in
theorem eq65 (a b c d e f : Int) (w : World) : (Op.equalIn 10000 65 (.agg #[I a, I b, I c, I d, I e, I f]) (.agg #[I 0, I 0, I 0, I 0, I 0, I 0])).run Try.prog w = .ok (decide (a = 0 ∧ b = 0 ∧ c = 0 ∧ d = 0 ∧ e = 0 ∧ f = 0)) w := by
  have u3 := Try.underlying3
  have a3 := Try.isAgg3
  have z3 := Try.sizeOf3
  rw [show (10000 : Nat) = 9999 + 1 from rfl, Op.equalIn]
  simp only [Sem.run_bind, run_underlying Try.underlying65, Result.andThen_ok]
  simp only [Std.Legacy.Range.forIn_eq_forIn_range', Std.Legacy.Range.size, Nat.sub_zero, Nat.add_sub_cancel, Nat.div_one, List.range'_succ, List.range'_zero, List.forIn_cons, List.forIn_nil]
  go_simp
  by_cases h1 : a = 0
  · by_cases h2 : b = 0
    · by_cases h3 : c = 0
      · by_cases h4 : d = 0
        · by_cases h5 : e = 0
          · by_cases h6 : f = 0 <;> simp [h1, h2, h3, h4, h5, h6]
          · simp [h1, h2, h3, h4, h5]
        · simp [h1, h2, h3, h4]
      · simp [h1, h2, h3]
    · simp [h1, h2]
  · simp [h1]
set_option maxRecDepth 100000 in
set_option maxHeartbeats 4000000 in
theorem fewest18_ok (x : Prk) (A : Option Addr) (c : Nat) (w : World) (hx : PrkOk x) (hA : Fours w w.heap.size A x.sp) :
    Calls Try.prog 18 #[x.val A c] w fun e w' => ∃ (B : Option Addr) (d : Nat), e = .returned (.tuple #[.slice B (fewR x).1.length d, I (fewR x).2]) ∧ Ints w' w'.heap.size B (fewR x).1 ∧ Below w.heap.size w w' := by
  have HX := Lib.hid hx
  have hn6 : x.sp.length ≤ 6 := hx.n6
  obtain ⟨i0, hi0, hi1, hi2, hi3⟩ := info_parts info3
  have HI0 := Lib.hid hi0; have HI1 := Lib.hid hi1; have HI2 := Lib.hid hi2; have HI3 := Lib.hid hi3
  have hu : Try.prog.underlying 27 = some (.slice 3) := Try.underlying27
  have HU := Lib.hid hu
  clear hi0 hi1 hi2 hi3 hu
  obtain ⟨N, hN, hNI, hN1, hN2⟩ := pow_nat hx.n6
  have HR : Hid (fewR x = match fewV x with | some m => (m.map fun k : Nat => (k : Int), 0) | none => ([], 12)) := Lib.hid (by unfold fewR; rw [prkB_iff.2 hx]; rfl)
  have H29 : Hid (∀ W : World, Fours W W.heap.size A x.sp → Calls Try.prog 29 #[.agg #[.slice A x.sp.length c, I x.alo, I x.ahi]] W fun e w' => e = .returned (.bool true) ∧ Below W.heap.size W w') := Lib.hid fun W h => by
    have := isPark29 x A c W h (by omega)
    rwa [prkB_iff.2 hx] at this
  have H31 : Hid (∀ W : World, Fours W W.heap.size A x.sp → Calls Try.prog 31 #[.agg #[.slice A x.sp.length c, I x.alo, I x.ahi]] W fun e w' => ∃ (B' : Option Addr) (d' P : Nat), e = .returned (.pointer (some ⟨P, 0, none⟩)) ∧ P < w'.heap.size ∧ ParkAt w' P x A c (.slice B' N d') ∧ Ints w' w'.heap.size B' (needsTo x N) ∧ Below W.heap.size W w') := Lib.hid fun W hW => (newPark31 x A c W hx hW).mono fun e w' ⟨B', d', h1, h2, h3, h4⟩ => by
    rw [← hN] at h2 h3
    exact ⟨B', d', _, h1, h2.lt, h2, h3, h4⟩
  have HA := Lib.hid hA
  have HNV : Hid (∃ k : Nat, needV x (N - 1) = (k : Int) ∧ ∀ v : Nat, v < k → fnd (enoughB x) [] x.n v = none) := Lib.hid (by
    have := (needV_bd hx (N - 1)).1
    refine ⟨(needV x (N - 1)).toNat, by omega, fun v hv => fnd_few ?_⟩
    rw [← hN]
    omega)
  have HTC : Hid (∀ (W : World) (B' : Option Addr) (d' P Lb Pb Fd Tb : Nat), Box W Lb [I ((x.n : Int) - 1)] → Box W Pb [.pointer (some ⟨P, 0, none⟩)] → ParkAt W P x A c (.slice B' N d') → Fours W Fd A x.sp → Ints W Fd B' (needsTo x N) → Box W Tb [.func (.func 42) #[] #[.pointer (some ⟨Lb, 0, none⟩), .pointer (some ⟨Pb, 0, none⟩), .pointer (some ⟨Fd, 0, none⟩), .pointer (some ⟨Tb, 0, none⟩)]] → Lb < Fd → Pb < Fd → P < Fd → Fd < Tb → TryCtx W x A c B' d' P Lb Pb Fd Tb) := Lib.hid fun W B' d' P Lb Pb Fd Tb h1 h2 h3 h4 h5 h6 h7 h8 h9 h10 => by
    rw [hN] at h3 h5
    exact ⟨h1, h2, h3, h4, h5, h6, h7, h8, h9, h10⟩
  clear hA hx hNI
  simp only [Prk.val]
  obtain ⟨al, hal⟩ : ∃ al, x.alo = al := ⟨_, rfl⟩
  obtain ⟨ah, hah⟩ : ∃ ah, x.ahi = ah := ⟨_, rfl⟩
  rw [hal, hah] at H29 H31 ⊢
  clear hal hah
  have HN := Lib.hid hN
  clear hN
  have HW : Hid (Below w.heap.size w (w.alloc (.cells #[.slice A x.sp.length c, I al, I ah] 26))) := Lib.hid (below1 _ _)
  have HCP : Hid (∀ W, Below (w.heap.size + 1) (w.alloc (.cells #[.slice A x.sp.length c, I al, I ah] 26)) W → W.cell? ⟨w.heap.size, 0, none⟩ = some (.slice A x.sp.length c) ∧ W.cell? ⟨w.heap.size, 1, none⟩ = some (I al) ∧ W.cell? ⟨w.heap.size, 2, none⟩ = some (I ah) ∧ Below w.heap.size w W) := Lib.hid fun W hW =>
    ⟨(hW.cell (p := ⟨_, _, none⟩) (by simp)).trans (by simp [go_sem]), (hW.cell (p := ⟨_, _, none⟩) (by simp)).trans (by simp [go_sem]), (hW.cell (p := ⟨_, _, none⟩) (by simp)).trans (by simp [go_sem]), (below1 w _).trans (hW.mono (by omega))⟩
  have hsz : (w.alloc (.cells #[.slice A x.sp.length c, I al, I ah] 26)).heap.size = w.heap.size + 1 := by simp
  have HFI : Hid (∀ W, Below w.heap.size w W → Fours W W.heap.size A x.sp) := Lib.hid fun W hW => (HA.out.below hW).more hW.size
  go_enter Try.func18, Try.ntmps18
  go_wp2_with (first
    | (go_at_call 29; refine (H29.out _ (HFI.out _ HW.out)).mono ?_; rintro e w1 ⟨rfl, hB1⟩; obtain ⟨q0, q1, q2, hBw1⟩ := HCP.out w1 (hB1.mono (by omega)))
    | (go_at_call 31; refine (H31.out _ (HFI.out _ hBw1)).mono ?_; rintro e w2 ⟨B', d', P, rfl, hPz, hP, hI, hB2⟩; obtain ⟨s0, s1, s2, hBw2⟩ := HCP.out w2 ((hB1.mono (by omega)).trans (hB2.mono (by have := hB1.size; omega))); have s0a : (w2.alloc (.cells #[.pointer (some ⟨P, 0, none⟩)] 61)).cell? ⟨w.heap.size, 0, none⟩ = some (.slice A x.sp.length c) := (by rw [World.cell?_alloc_lt _ _ _ (by show w.heap.size < _; have := hB1.size; have := hB2.size; omega)]; exact s0))
    | fail)
  have HBW : Hid (Below (w.heap.size + 1) (w.alloc (.cells #[.slice A x.sp.length c, I al, I ah] 26)) w2) := Lib.hid ((hB1.mono (by omega)).trans (hB2.mono (by have := hB1.size; omega)))
  have HP := Lib.hid hP
  have HI := Lib.hid hI
  have hbw := hBw2
  have hz2 : w.heap.size + 1 ≤ w2.heap.size := by have := hB1.size; have := hB2.size; omega
  clear hB1 hB2 hP hI q0 q1 q2 s0 s1 s2 s0a hBw1 hBw2
  obtain ⟨W, hW⟩ : ∃ W, W = ((((w2.alloc (.cells #[.pointer (some ⟨P, 0, none⟩)] 61)).alloc (.cells #[I ((x.sp.length : Int) - 1)] 3)).alloc (.cells #[I 0, I 0, I 0, I 0, I 0, I 0] 65)).alloc (.cells #[I 0, I 0, I 0, I 0, I 0, I 0] 65)).alloc (.cells #[.func (.func 42) #[] #[.pointer (some ⟨w2.heap.size + 1, 0, none⟩), .pointer (some ⟨w2.heap.size, 0, none⟩), .pointer (some ⟨w2.heap.size + 1 + 1 + 1, 0, none⟩), .pointer (some ⟨w2.heap.size + 1 + 1 + 1 + 1, 0, none⟩)]] 75) := ⟨_, rfl⟩
  have hWz : W.heap.size = w2.heap.size + 5 := by rw [hW]; simp
  have HB2 : Hid (Below w2.heap.size w2 W) := Lib.hid (by rw [hW]; (repeat' (first | assumption | exact Below.refl _ _ | refine Below.drew ?_ | refine below_drewN ?_ _ | refine Below.setCell ?_ (by first | omega | (simp; done) | (simp; omega)) _ | refine Below.alloc ?_ (by first | omega | (simp; done) | (simp; omega)) _ | refine Below.trans ?_ (Below.mono (by assumption) (by first | omega | (simp; done) | (simp; omega))))))
  have K0 : Hid (Box W w2.heap.size [.pointer (some ⟨P, 0, none⟩)]) := Lib.hid (by rw [hW]; exact ((((Box.new w2 _ 61).alloc _).alloc _).alloc _).alloc _)
  have K1 : Hid (Box W (w2.heap.size + 1) [I ((x.sp.length : Int) - 1)]) := Lib.hid (by
    rw [hW]
    have := Box.new (w2.alloc (.cells #[.pointer (some ⟨P, 0, none⟩)] 61)) [I ((x.sp.length : Int) - 1)] 3
    simp only [World.size_alloc] at this
    exact ((this.alloc _).alloc _).alloc _)
  have K2 : Hid (Box W (w2.heap.size + 1 + 1) (six fun _ => 0)) := Lib.hid (by
    rw [hW]
    have := Box.new ((w2.alloc (.cells #[.pointer (some ⟨P, 0, none⟩)] 61)).alloc (.cells #[I ((x.sp.length : Int) - 1)] 3)) (six fun _ => 0) 65
    simp only [World.size_alloc] at this
    exact (this.alloc _).alloc _)
  have K3 : Hid (Box W (w2.heap.size + 1 + 1 + 1) (six fun _ => 0)) := Lib.hid (by
    rw [hW]
    have := Box.new (((w2.alloc (.cells #[.pointer (some ⟨P, 0, none⟩)] 61)).alloc (.cells #[I ((x.sp.length : Int) - 1)] 3)).alloc (.cells #[I 0, I 0, I 0, I 0, I 0, I 0] 65)) (six fun _ => 0) 65
    simp only [World.size_alloc] at this
    exact this.alloc _)
  have K4 : Hid (Box W (w2.heap.size + 1 + 1 + 1 + 1) [.func (.func 42) #[] #[.pointer (some ⟨w2.heap.size + 1, 0, none⟩), .pointer (some ⟨w2.heap.size, 0, none⟩), .pointer (some ⟨w2.heap.size + 1 + 1 + 1, 0, none⟩), .pointer (some ⟨w2.heap.size + 1 + 1 + 1 + 1, 0, none⟩)]]) := Lib.hid (by
    rw [hW]
    have := Box.new ((((w2.alloc (.cells #[.pointer (some ⟨P, 0, none⟩)] 61)).alloc (.cells #[I ((x.sp.length : Int) - 1)] 3)).alloc (.cells #[I 0, I 0, I 0, I 0, I 0, I 0] 65)).alloc (.cells #[I 0, I 0, I 0, I 0, I 0, I 0] 65)) [.func (.func 42) #[] #[.pointer (some ⟨w2.heap.size + 1, 0, none⟩), .pointer (some ⟨w2.heap.size, 0, none⟩), .pointer (some ⟨w2.heap.size + 1 + 1 + 1, 0, none⟩), .pointer (some ⟨w2.heap.size + 1 + 1 + 1 + 1, 0, none⟩)]] 75
    simp only [World.size_alloc] at this
    exact this)
  have HTX : Hid (TryCtx W x A c B' d' P (w2.heap.size + 1) w2.heap.size (w2.heap.size + 1 + 1 + 1) (w2.heap.size + 1 + 1 + 1 + 1)) := Lib.hid (HTC.out W B' d' P _ _ _ _ K1.out K0.out (HP.out.call HB2.out) ((HA.out.below (hbw.trans (HB2.out.mono hbw.size))).more (by have := hbw.size; omega)) ((HI.out.below HB2.out).more (by omega)) K4.out (by omega) (by omega) (by omega) (by omega))
  rw [show World.alloc (World.alloc (World.alloc (World.alloc (World.alloc w2 _) _) _) _) _ = W from hW.symm]
  obtain ⟨c0, _⟩ := K0.out.at_ 0 _ rfl
  have cn := HTX.out.park.needs
  rw [← HN.out] at cn
  obtain ⟨nv, hnv, hno⟩ := HNV.out
  obtain ⟨nb, noff, hne, hnz, hnc⟩ := HTX.out.ints (by rw [needsTo_len]; have := HN.out; omega)
  subst hne
  have n0 := hnc (N - 1) (by rw [needsTo_len, ← HN.out]; omega)
  rw [needsTo_get, hnv] at n0
  have HNo := Lib.hid hno
  have q0 : ((N : Int) - 1) = ((N - 1 : Nat) : Int) := by omega
  have q1 : (0 : Int) ≤ (N : Int) - 1 := by omega
  have q2 : (N : Int) - 1 < (N : Int) := by omega
  have q3 : ((N : Int) - 1).toNat = N - 1 := by omega
  have HBXL : Hid (∀ W', Frm W.heap.size (· = w2.heap.size + 1 + 1 + 1) W W' → W'.cell? ⟨w.heap.size, 0, none⟩ = some (.slice A x.sp.length c) ∧ Below w.heap.size w W') := Lib.hid fun W' h => by
    have h1 : Below w2.heap.size W W' := h.below (by omega) (fun k hk e => by omega)
    exact ⟨(HCP.out _ (HBW.out.trans ((HB2.out.mono hz2).trans (h1.mono hz2)))).1, (hbw.trans (HB2.out.mono hbw.size)).trans (h1.mono hbw.size)⟩
  clear hW hnc HNV hno hnv
  go_quiet (fail)
  go_wp2_with (fail)
  go_loopw [9] (fun s9 wr => ∃ v : Nat, nv ≤ v ∧ (v ≤ 13 ∨ v = nv) ∧ s9 = I v ∧ Hid (Frm W.heap.size (· = w2.heap.size + 1 + 1 + 1) W wr) ∧ Hid (Box wr (w2.heap.size + 1 + 1 + 1) (six fun _ => 0)) ∧ Hid (∀ v', v' < v → fnd (enoughB x) [] x.n v' = none)) (fun s _ => 13 - (intOf s).toNat)
  case atStart =>
    exact ⟨nv, by omega, by omega, rfl, Lib.hid ((Frm.refl _ _ W).drewN _), Lib.hid (K3.out.drewN _), HNo⟩
  case round =>
    clear HNo K3 c0 cn n0
    obtain ⟨v, hv0, hv1, rfl, HFR, HD, HNo⟩ := hrel
    have HTr := Lib.hid (HTX.out.frm HFR.out)
    have hzr := HFR.out.size
    have hbw2 : Below w.heap.size w wr := (hbw.trans (HB2.out.mono hbw.size)).trans ((HFR.out.below (B := w2.heap.size) (by omega) (fun k hk e => by omega)).mono hbw.size)
    have hbx : Below (w.heap.size + 1) (w.alloc (.cells #[.slice A x.sp.length c, I al, I ah] 26)) wr := HBW.out.trans ((HB2.out.mono hz2).trans ((HFR.out.below (B := w2.heap.size) (by omega) (fun k hk e => by omega)).mono hz2))
    by_cases hle : v ≤ 12
    · obtain ⟨b0, _⟩ := HTr.out.tb.at_ 0 _ rfl
      have HNb : Hid (∀ W', Frm W.heap.size (· = w2.heap.size + 1 + 1 + 1) W W' → Box W' (w2.heap.size + 1 + 1) (six fun _ => 0)) := Lib.hid fun W' h => K2.out.keep h.size (fun o => h.cell (by omega) (by omega)) (fun o => h.frozen (by omega) (by omega))
      have hnb := HNb.out _ HFR.out
      obtain ⟨m0, _⟩ := hnb.at_ 0 _ (six_at _ (by omega))
      obtain ⟨m1, _⟩ := hnb.at_ 1 _ (six_at _ (by omega))
      obtain ⟨m2, _⟩ := hnb.at_ 2 _ (six_at _ (by omega))
      obtain ⟨m3, _⟩ := hnb.at_ 3 _ (six_at _ (by omega))
      obtain ⟨m4, _⟩ := hnb.at_ 4 _ (six_at _ (by omega))
      obtain ⟨m5, _⟩ := hnb.at_ 5 _ (six_at _ (by omega))
      have H42 : Hid (Calls Try.prog 42 #[.agg #[I 0, I 0, I 0, I 0, I 0, I 0], I 0, I v, .pointer (some ⟨w2.heap.size + 1, 0, none⟩), .pointer (some ⟨w2.heap.size, 0, none⟩), .pointer (some ⟨w2.heap.size + 1 + 1 + 1, 0, none⟩), .pointer (some ⟨w2.heap.size + 1 + 1 + 1 + 1, 0, none⟩)] wr fun e w' =>
          e = .returned (.bool (fnd (enoughB x) [] x.n v).isSome) ∧ Frm wr.heap.size (· = w2.heap.size + 1 + 1 + 1) wr w' ∧ Box w' (w2.heap.size + 1 + 1 + 1) (six (fdOf (fun _ => 0) (fnd (enoughB x) [] x.n v)))) := Lib.hid (try42 x A _ c d' P _ _ _ _ HX.out (fun _ => 0) x.n v [] wr (by simp) (fun h => ⟨h, by
            rcases Nat.eq_zero_or_pos v with h1 | h1
            · exact h1
            · have := HNo.out 0 h1
              rw [enough_zero HX.out h] at this
              cases this⟩) (by simp; omega) HTr.out HD.out)
      have HFS : Hid (∀ m, fnd (enoughB x) [] x.n v = some m → fewV x = some m ∧ m.length = x.n ∧ m.sum = v) := Lib.hid fun m hm => ⟨range_some (by omega) HNo.out hm, fnd_mem hm⟩
      have HNS : Hid (fnd (enoughB x) [] x.n v = none → ∀ v', v' < v + 1 → fnd (enoughB x) [] x.n v' = none) := Lib.hid fun e v' h => by
        rcases Nat.lt_succ_iff_lt_or_eq.1 h with h1 | rfl
        · exact HNo.out v' h1
        · exact e
      have HTF : Hid (∀ W', Frm wr.heap.size (· = w2.heap.size + 1 + 1 + 1) wr W' → Frm W.heap.size (· = w2.heap.size + 1 + 1 + 1) W W') := Lib.hid fun W' h => HFR.out.trans (h.mono hzr fun _ _ e => e)
      obtain ⟨o, ho⟩ : ∃ o, fnd (enoughB x) [] x.n v = o := ⟨_, rfl⟩
      rw [ho] at H42 HFS HNS
      clear ho hnb
      have p2 : (0 : Int) ≤ (v : Int) := by omega
      cases o with
      | none =>
        have HNx := Lib.hid (HNS.out rfl)
        clear HNS HFS
        go_wp2_with (first
          | (go_at_call 42; refine H42.out.mono ?_; rintro e w5 ⟨rfl, hF5, hD5⟩)
          | fail)
        have HF5 := Lib.hid (HTF.out _ hF5)
        have HD5 := Lib.hid hD5
        go_roundw
        case rel => first | exact ⟨v + 1, by omega, by omega, by go_num, HF5, HD5, HNx⟩ | ((repeat apply Exists.intro); refine ⟨?_, rfl⟩; exact ⟨v + 1, by omega, by omega, by go_num, HF5, HD5, HNx⟩)
        case measure => first | (simp [intOf]; done) | (simp [intOf]; omega)
      | some m =>
        obtain ⟨hfe, hml, hms⟩ := HFS.out m rfl
        have HFE := Lib.hid hfe
        have HML := Lib.hid hml
        have HMS := Lib.hid hms
        clear HNS HFS hfe hml hms
        have HRR : Hid (fewR x = (m.map fun k : Nat => (k : Int), 0)) := Lib.hid (by rw [HR.out, HFE.out])
        have hm6 : m.length ≤ 6 := by rw [HML.out]; exact hn6
        have hq65 := fun w' => eq65 (postF m 0) (postF m 1) (postF m 2) (postF m 3) (postF m 4) (postF m 5) w'
        obtain ⟨eb, heb⟩ : ∃ eb, decide (postF m 0 = 0 ∧ postF m 1 = 0 ∧ postF m 2 = 0 ∧ postF m 3 = 0 ∧ postF m 4 = 0 ∧ postF m 5 = 0) = eb := ⟨_, rfl⟩
        rw [heb] at hq65
        have HEB := Lib.hid heb
        clear heb
        cases eb
        ·
          have hn1 : 0 < x.sp.length := by
            rcases Nat.eq_zero_or_pos x.sp.length with h | h
            · have hm0 : m = [] := List.eq_nil_of_length_eq_zero (by rw [HML.out]; exact h)
              have := HEB.out
              rw [hm0] at this
              simp [postF] at this
            · exact h
          have hsl : ∀ w', (Instr.sliceAt 65 (.pointer (some ⟨w2.heap.size + 1 + 1 + 1, 0, none⟩)) none (some (.int .i64 (x.sp.length : Int))) none).run Try.prog w' = .ok (.slice (some ⟨w2.heap.size + 1 + 1 + 1, 0, none⟩) x.sp.length 6) w' := fun w' => slice65 _ _ hn6 w'
          have H43 : Hid (∀ W', Hid (Box W' (w2.heap.size + 1 + 1 + 1) (six (postF m))) → Calls Try.prog 43 #[.slice (some ⟨w2.heap.size + 1 + 1 + 1, 0, none⟩) x.sp.length 6] W' fun e w' => ∃ (B : Option Addr) (d : Nat), e = .returned (.slice B x.sp.length d) ∧ Ints w' w'.heap.size B (m.map fun k : Nat => (k : Int)) ∧ Below W'.heap.size W' w') := Lib.hid fun W' h => by
            have hl : (m.map fun k : Nat => (k : Int)).length = x.sp.length := by rw [List.length_map]; exact HML.out
            have := clone43 (w2.heap.size + 1 + 1 + 1) 6 (m.map fun k : Nat => (k : Int)) W' h.out.1 (fun k hk => by
              have hk6 : k < 6 := by omega
              have hkm : k < m.length := by simpa using hk
              rw [(h.out.at_ k _ (six_at _ hk6)).1]
              simp [postF, List.getD, hkm]) (by omega) (by omega)
            rwa [hl] at this
          go_wp2_with (first
            | (go_at_call 42; refine H42.out.mono ?_; rintro e w5 ⟨rfl, hF5, hD5⟩; have HF5 := Lib.hid (HTF.out _ hF5); have HD5 : Hid (Box w5 (w2.heap.size + 1 + 1 + 1) (six (postF m))) := Lib.hid hD5; have hnb5 := HNb.out _ HF5.out; obtain ⟨cx0, hbw5⟩ := HBXL.out _ HF5.out; obtain ⟨r0, _⟩ := hnb5.at_ 0 _ (six_at _ (by omega)); obtain ⟨r1, _⟩ := hnb5.at_ 1 _ (six_at _ (by omega)); obtain ⟨r2, _⟩ := hnb5.at_ 2 _ (six_at _ (by omega)); obtain ⟨r3, _⟩ := hnb5.at_ 3 _ (six_at _ (by omega)); obtain ⟨r4, _⟩ := hnb5.at_ 4 _ (six_at _ (by omega)); obtain ⟨r5, _⟩ := hnb5.at_ 5 _ (six_at _ (by omega)); obtain ⟨t0, _⟩ := HD5.out.at_ 0 _ (six_at _ (by omega)); obtain ⟨t1, _⟩ := HD5.out.at_ 1 _ (six_at _ (by omega)); obtain ⟨t2, _⟩ := HD5.out.at_ 2 _ (six_at _ (by omega)); obtain ⟨t3, _⟩ := HD5.out.at_ 3 _ (six_at _ (by omega)); obtain ⟨t4, _⟩ := HD5.out.at_ 4 _ (six_at _ (by omega)); obtain ⟨t5, _⟩ := HD5.out.at_ 5 _ (six_at _ (by omega)))
            | (go_at_call 43; refine (H43.out w5 HD5).mono ?_; rintro e w6 ⟨Br, dr, rfl, hI6, hB6⟩)
            | fail)
          refine bodyPost_ret (v := .tuple #[.slice Br x.sp.length dr, I 0]) (by simp [results, Try.results18, go_sem]) rfl ⟨Br, dr, by rw [HRR.out]; simp [HML.out]; rfl, by rw [HRR.out]; exact hI6, hbw5.trans (hB6.mono hbw5.size)⟩
        ·
          go_wp2_with (first
            | (go_at_call 42; refine H42.out.mono ?_; rintro e w5 ⟨rfl, hF5, hD5⟩; have HF5 := Lib.hid (HTF.out _ hF5); have HD5 : Hid (Box w5 (w2.heap.size + 1 + 1 + 1) (six (postF m))) := Lib.hid hD5; have hnb5 := HNb.out _ HF5.out; obtain ⟨cx0, hbw5⟩ := HBXL.out _ HF5.out; obtain ⟨r0, _⟩ := hnb5.at_ 0 _ (six_at _ (by omega)); obtain ⟨r1, _⟩ := hnb5.at_ 1 _ (six_at _ (by omega)); obtain ⟨r2, _⟩ := hnb5.at_ 2 _ (six_at _ (by omega)); obtain ⟨r3, _⟩ := hnb5.at_ 3 _ (six_at _ (by omega)); obtain ⟨r4, _⟩ := hnb5.at_ 4 _ (six_at _ (by omega)); obtain ⟨r5, _⟩ := hnb5.at_ 5 _ (six_at _ (by omega)); obtain ⟨t0, _⟩ := HD5.out.at_ 0 _ (six_at _ (by omega)); obtain ⟨t1, _⟩ := HD5.out.at_ 1 _ (six_at _ (by omega)); obtain ⟨t2, _⟩ := HD5.out.at_ 2 _ (six_at _ (by omega)); obtain ⟨t3, _⟩ := HD5.out.at_ 3 _ (six_at _ (by omega)); obtain ⟨t4, _⟩ := HD5.out.at_ 4 _ (six_at _ (by omega)); obtain ⟨t5, _⟩ := HD5.out.at_ 5 _ (six_at _ (by omega)))
            | (at_make; refine wpList_make_full _ rfl _ _ 27 rfl w5.heap.size 3 i0 (I 0) 1 HU.out HI0.out HI1.out HI2.out .i64 .i64 x.sp.length x.sp.length x.sp.length rfl rfl rfl rfl (by rw [HI3.out]; omega) (by unfold maxLen; omega) (Nat.le_refl _) ?_; intro w6 hown hg; have HBM := Lib.hid (box_made hown); have hB6 : Below w5.heap.size w5 w6 := (Below.refl _ w5).grown hg (Nat.le_refl _) (fun k e => by cases e); clear hown hg)
            | fail)
          have HZM : Hid ((m.map fun k : Nat => (k : Int)) = List.replicate x.sp.length 0) := Lib.hid (by
            have h6 := of_decide_eq_true HEB.out
            apply List.ext_getElem
            · simp [HML.out]; rfl
            · intro k h1 h2
              have hk : k < m.length := by simpa using h1
              have hpk : postF m k = 0 := by
                obtain rfl | rfl | rfl | rfl | rfl | rfl : k = 0 ∨ k = 1 ∨ k = 2 ∨ k = 3 ∨ k = 4 ∨ k = 5 := by omega
                · exact h6.1
                · exact h6.2.1
                · exact h6.2.2.1
                · exact h6.2.2.2.1
                · exact h6.2.2.2.2.1
                · exact h6.2.2.2.2.2
              simp [postF, List.getD, hk] at hpk
              simp [hpk])
          refine bodyPost_ret (v := .tuple #[.slice (some ⟨w5.heap.size, 0, none⟩) x.sp.length x.sp.length, I 0]) (by simp [results, Try.results18, go_sem]) rfl ⟨some ⟨w5.heap.size, 0, none⟩, x.sp.length, by rw [HRR.out]; simp [HML.out]; rfl, fun _ => ⟨_, 0, rfl, HBM.out.1, fun k hk => ?_⟩, hbw5.trans (hB6.mono hbw5.size)⟩
          have hk2 : k < x.sp.length := by rw [HRR.out, HZM.out] at hk; simpa using hk
          have := (HBM.out.at_ k (I 0) (by simp [hk2])).1
          rw [Nat.zero_add, this]
          simp only [HRR.out, HZM.out, List.getElem_replicate]
    · have HFN : Hid (fewV x = none) := Lib.hid (range_none fun v' h => HNo.out v' (by omega))
      have HRR : Hid (fewR x = ([], 12)) := Lib.hid (by rw [HR.out, HFN.out])
      go_wp2_with (fail)
      refine bodyPost_ret (v := .tuple #[.slice none 0 0, I 12]) (by simp [results, Try.results18, go_sem]) rfl ⟨none, 0, by rw [HRR.out]; rfl, fun h => by rw [HRR.out] at h; exact absurd h (by simp), hbw2⟩
set_option maxRecDepth 100000 in
theorem fewest18 (x : Prk) (A : Option Addr) (c : Nat) (w : World) (hA : Fours w w.heap.size A x.sp) (hxl : x.sp.length ≤ 9223372036854775807) :
    Calls Try.prog 18 #[x.val A c] w fun e w' => ∃ (B : Option Addr) (d : Nat), e = .returned (.tuple #[.slice B (fewR x).1.length d, I (fewR x).2]) ∧ Ints w' w'.heap.size B (fewR x).1 ∧ Below w.heap.size w w' := by
  cases hp : prkB x
  · have hr : fewR x = ([], 1) := by unfold fewR; rw [hp]; rfl
    rw [hr]
    have H29 : Hid (∀ W : World, Fours W W.heap.size A x.sp → Calls Try.prog 29 #[.agg #[.slice A x.sp.length c, I x.alo, I x.ahi]] W fun e w' => e = .returned (.bool false) ∧ Below W.heap.size W w') := Lib.hid fun W h => by
      have := isPark29 x A c W h hxl
      rwa [hp] at this
    have HA := Lib.hid hA
    clear hA hp hr hxl
    simp only [Prk.val]
    have HW : Hid (Below w.heap.size w (w.alloc (.cells #[.slice A x.sp.length c, I x.alo, I x.ahi] 26))) := Lib.hid (below1 _ _)
    have hsz : (w.alloc (.cells #[.slice A x.sp.length c, I x.alo, I x.ahi] 26)).heap.size = w.heap.size + 1 := by simp
    go_enter Try.func18, Try.ntmps18
    go_wp2_with (first
      | (go_at_call 29; refine (H29.out _ ((HA.out.below HW.out).more HW.out.size)).mono ?_; rintro e w1 ⟨rfl, hB1⟩)
      | fail)
    refine bodyPost_ret (v := .tuple #[.slice none 0 0, I 1]) (by simp [results, Try.results18, go_sem]) rfl ⟨none, 0, rfl, (fun (h : 0 < ([] : List Int).length) => absurd h (by simp)), HW.out.trans (hB1.mono (by omega))⟩
  · exact fewest18_ok x A c w (prkB_iff.1 hp) hA
end Go.Proofs.Ytfebhofihioaoaa
