/- Proof: the fewest readings that prove it. -/
import Derived.Test.YtgdilbilhajgaaaDoorW4
namespace Go.Proofs.YtgdilbilhajgaaaDoor
set_option linter.unusedVariables false
set_option linter.unusedSimpArgs false
open Go Go.RowKit Go.Sort

set_option maxHeartbeats 400000 in
theorem clo33 (T kb mb n c : Nat) (main : Int) (A : Option Addr) (w : World) (hn : n ≤ 9223372036854775807) (c1 : w.cell? ⟨kb, 0, none⟩ = some (I main)) (c2 : w.cell? ⟨mb, 0, none⟩ = some (.slice A n c)) :
    Calls Tryd.prog 33 (#[.pointer (some ⟨T, 0, none⟩)] ++ #[.pointer (some ⟨kb, 0, none⟩), .pointer (some ⟨mb, 0, none⟩)]) w fun e w' => e = .returned (.bool (inB main 0 ((n : Int) - 1))) ∧ Below w.heap.size w w' := by
  simp only [List.append_toArray, List.cons_append, List.nil_append]
  have b0 : (0 : Int) ≤ (n : Int) := by omega
  have HW : Hid (∀ W, Calls Tryd.prog 34 #[I main, I 0, I ((n : Int) - 1)] W fun e w' => e = .returned (.bool (inB main 0 ((n : Int) - 1))) ∧ W = w') := Lib.hid fun W => within34 _ _ _ W
  generalize inB main 0 ((n : Int) - 1) = bb at *
  go_enter Tryd.func33, Tryd.ntmps33
  go_wp2_with (first
    | (go_at_call 34; refine (HW.out _).mono ?_; rintro e w1 ⟨rfl, rfl⟩)
    | fail)
  go_ret
  exact ⟨rfl, by (repeat' (first | assumption | exact Below.refl _ _ | refine Below.drew ?_ | refine below_drewN ?_ _ | refine Below.setCell ?_ (by first | omega | (simp; done) | (simp; omega)) _ | refine Below.alloc ?_ (by first | omega | (simp; done) | (simp; omega)) _ | refine Below.trans ?_ (Below.mono (by assumption) (by first | omega | (simp; done) | (simp; omega)))))⟩

theorem holds_own {w : World} {base n cap g : Nat} {e : TypeId} {xs : List Set12} (h : w.ownsRow base e 1 (.slice (some ⟨g, 0, none⟩) n cap) n (xs.map encS)) (hn : xs.length = n) : Holds encS w g 0 xs.toArray := fun j hj => by
  have hj' : j < xs.length := by simpa using hj
  refine ⟨?_, ?_⟩
  · have := h.cells (g := g) rfl j (encS xs[j]) (by simp [hj'])
    rw [Addr.add_lit] at this
    rw [this]
    simp [hj']
  · rcases h.2 with h1 | ⟨g', cap', cur, h1, _, h2, _⟩
    · cases h1.1
    · injection h1 with h1
      injection h1 with h1
      injection h1 with h1
      subst h1
      simp [World.frozen?, h2]
theorem setsA_succ (k : Nat) : setsA (k + 1) = setsA k ++ [⟨k % 4096, Nat.mod_lt _ (by decide)⟩] := by
  unfold setsA
  rw [List.range_succ, List.map_append]
  rfl
theorem info71 : (Tryd.prog.info? 71).map (fun i => (i.zero, i.size, i.bytes)) = some (some (.int .u64 0), 1, 8) := by kernel_rfl
theorem perm_sets {N : Nat} {d d' : Array Set12} (hd : d.toList = setsA N) (hp : PermIn 0 d.size d d') : d'.toList.Perm (setsA N) := by
  have h3 := hp.2.2
  have e1 : d.extract 0 d.size = d := by simp
  have e2 : d'.extract 0 d.size = d' := by rw [← hp.1]; simp
  rw [e1, e2, hd] at h3
  exact h3
theorem set_lt {N : Nat} (hN : N ≤ 4096) {d d' : Array Set12} (hd : d.toList = setsA N) (hp : PermIn 0 d.size d d') (x : Set12) (hx : x ∈ d'.toList) : x.1 < N := by
  obtain ⟨i, hi, rfl⟩ := List.mem_map.1 ((perm_sets hd hp).mem_iff.1 hx)
  have := List.mem_range.1 hi
  simp only
  rw [Nat.mod_eq_of_lt (by omega)]
  exact this

theorem tab_ne {w : World} {g : Nat} (h : TabOk w) (hg : w.heap.size ≤ g) : Proofs.Tryd.ctzL_ren.g 1 ≠ g := fun e => Nat.not_lt.2 hg (e ▸ h.2)

/-- What Proof answers. -/
def ProofPost (m : List (Int × Int)) (l : List (Int × Int × Int)) (main : Int) (w : World) (e : Ending) (w' : World) : Prop :=
  Below w.heap.size w w' ∧ ((¬ InOk m l ∧ e = .returned (.tuple #[nilS, I 1])) ∨ (InOk m l ∧ inB main 0 ((m.length : Int) - 1) = false ∧ e = .returned (.tuple #[nilS, I 2])) ∨
    (InOk m l ∧ inB main 0 ((m.length : Int) - 1) = true ∧ (¬ ∃ x, Feas m l x) ∧ e = .returned (.tuple #[nilS, I 6])) ∨
    (InOk m l ∧ inB main 0 ((m.length : Int) - 1) = true ∧ (∃ x, Feas m l x) ∧ (¬ SureP m l main.toNat (List.range l.length)) ∧ e = .returned (.tuple #[nilS, I 4])) ∨
    (InOk m l ∧ inB main 0 ((m.length : Int) - 1) = true ∧ (∃ x, Feas m l x) ∧ ∃ v p, e = .returned (.tuple #[v, I 0]) ∧ w'.ownsRow w.heap.size 3 1 v p.length (p.map fun k : Nat => I (k : Int)) ∧ IsProof m l main.toNat p))

set_option maxRecDepth 100000 in
set_option maxHeartbeats 4000000 in
theorem proof13 (A B : Option Addr) (c cb : Nat) (main : Int) (m : List (Int × Int)) (l : List (Int × Int × Int)) (w : World) (hm : Pairs w w.heap.size A m) (hml : m.length ≤ 9223372036854775807) (hl : Threes w w.heap.size B l) (hll : l.length ≤ 9223372036854775807) (hTab : TabOk w) :
    Calls Tryd.prog 13 #[.slice A m.length c, .slice B l.length cb, I main] w (ProofPost m l main w) := by
  have HRD : Hid (∀ kb mb W, Below w.heap.size w W → kb < W.heap.size → mb < W.heap.size → W.cell? ⟨kb, 0, none⟩ = some (I main) → W.cell? ⟨mb, 0, none⟩ = some (.slice A m.length c) →
      Calls Tryd.prog 32 #[.slice A m.length c, .slice B l.length cb, .func (.func 33) #[] #[.pointer (some ⟨kb, 0, none⟩), .pointer (some ⟨mb, 0, none⟩)]] W (RdPost m l A c (inB main 0 ((m.length : Int) - 1)) W)) := Lib.hid fun kb mb W hB z1 z2 c1 c2 =>
    read32 33 _ (enters_of Tryd.func33 (by kernel_rfl) rfl) _ A B c cb m l W ((hm.below hB).more hB.size) hml ((hl.below hB).more hB.size) hll
      (fun T W' hB' => clo33 T kb mb m.length c main A W' hml ((hB'.cell (p := ⟨kb, 0, none⟩) z1).trans c1) ((hB'.cell (p := ⟨mb, 0, none⟩) z2).trans c2))
  have HM := Lib.hid hm
  have HLL := Lib.hid hl
  have HTab := Lib.hid hTab
  obtain ⟨i0, hi0, hi1, hi2, hi3⟩ := info_parts info71
  have hu : Tryd.prog.underlying 69 = some (.slice 71) := Tryd.underlying69
  have HU := Lib.hid hu; have HI0 := Lib.hid hi0; have HI1 := Lib.hid hi1; have HI2 := Lib.hid hi2; have HI3 := Lib.hid hi3
  clear hu hi0 hi1 hi2 hi3 hm hl hTab
  have HIN : Hid (inB main 0 ((m.length : Int) - 1) = inB main 0 ((m.length : Int) - 1)) := Lib.hid rfl
  generalize hbb : inB main 0 ((m.length : Int) - 1) = bb at HRD
  have HBB := Lib.hid hbb
  clear hbb HIN
  go_enter Tryd.func13, Tryd.ntmps13
  go_wp2_with (first
    | (go_at_call 32; refine (HRD.out _ _ _ (by (repeat' (first | assumption | exact Below.refl _ _ | refine Below.drew ?_ | refine below_drewN ?_ _ | refine Below.setCell ?_ (by first | omega | (simp; done) | (simp; omega)) _ | refine Below.alloc ?_ (by first | omega | (simp; done) | (simp; omega)) _ | refine Below.trans ?_ (Below.mono (by assumption) (by first | omega | (simp; done) | (simp; omega)))))) (by simp) (by simp; omega) (by simp [go_sem]) (by simp [go_sem])).mono ?_; rintro e w1 ⟨hB1, ⟨hno, rfl⟩ | ⟨hok, ht, rfl⟩ | ⟨hok, ht, hno, rfl⟩ | ⟨hok, ht, T, S, sl, rfl, hTz, hSz, hT, hS, hlen, hsp⟩⟩ <;> (try have HNO := Lib.hid hno) <;> (try have HOK := Lib.hid hok) <;> (try have HTT := Lib.hid ht) <;> (try have HT := Lib.hid hT) <;> (try have HS := Lib.hid hS) <;> (try have HSP := Lib.hid hsp) <;> (try clear hno) <;> (try clear hok) <;> (try clear hT hS hsp) <;> (try clear ht))
    | fail)
  · go_ret2
    have hz1 := hB1.size
    simp only [World.size_alloc] at hz1
    exact ⟨by (repeat' (first | assumption | exact Below.refl _ _ | refine Below.drew ?_ | refine below_drewN ?_ _ | refine Below.setCell ?_ (by first | omega | (simp; done) | (simp; omega)) _ | refine Below.alloc ?_ (by first | omega | (simp; done) | (simp; omega)) _ | refine Below.trans ?_ (Below.mono (by assumption) (by first | omega | (simp; done) | (simp; omega))))), .inl ⟨HNO.out, rfl⟩⟩
  · go_ret2
    have hz1 := hB1.size
    simp only [World.size_alloc] at hz1
    exact ⟨by (repeat' (first | assumption | exact Below.refl _ _ | refine Below.drew ?_ | refine below_drewN ?_ _ | refine Below.setCell ?_ (by first | omega | (simp; done) | (simp; omega)) _ | refine Below.alloc ?_ (by first | omega | (simp; done) | (simp; omega)) _ | refine Below.trans ?_ (Below.mono (by assumption) (by first | omega | (simp; done) | (simp; omega))))), .inr (.inl ⟨HOK.out, HBB.out.trans HTT.out, rfl⟩)⟩
  · go_ret2
    have hz1 := hB1.size
    simp only [World.size_alloc] at hz1
    exact ⟨by (repeat' (first | assumption | exact Below.refl _ _ | refine Below.drew ?_ | refine below_drewN ?_ _ | refine Below.setCell ?_ (by first | omega | (simp; done) | (simp; omega)) _ | refine Below.alloc ?_ (by first | omega | (simp; done) | (simp; omega)) _ | refine Below.trans ?_ (Below.mono (by assumption) (by first | omega | (simp; done) | (simp; omega))))), .inr (.inr (.inl ⟨HOK.out, HBB.out.trans HTT.out, HNO.out, rfl⟩))⟩
  · have hin := inB_true.1 (HBB.out.trans HTT.out)
    obtain ⟨mi, rfl⟩ : ∃ mi : Nat, main = (mi : Int) := ⟨main.toNat, by omega⟩
    have hmi : mi < m.length := by omega
    have hBw : Below w.heap.size w w1 := by (repeat' (first | assumption | exact Below.refl _ _ | refine Below.drew ?_ | refine below_drewN ?_ _ | refine Below.setCell ?_ (by first | omega | (simp; done) | (simp; omega)) _ | refine Below.alloc ?_ (by first | omega | (simp; done) | (simp; omega)) _ | refine Below.trans ?_ (Below.mono (by assumption) (by first | omega | (simp; done) | (simp; omega)))))
    have hz1 := hB1.size
    simp only [World.size_alloc] at hz1
    have d1 : w1.cell? ⟨w.heap.size, 0, none⟩ = some (.slice A m.length c) := (hB1.cell (p := ⟨w.heap.size, 0, none⟩) (by simp; omega)).trans (by simp [go_sem])
    have d2 : w1.cell? ⟨w.heap.size + 1, 0, none⟩ = some (.slice B l.length cb) := (hB1.cell (p := ⟨w.heap.size + 1, 0, none⟩) (by simp)).trans (by simp [go_sem])
    have d3 : w1.cell? ⟨w.heap.size + 1 + 1, 0, none⟩ = some (I mi) := (hB1.cell (p := ⟨w.heap.size + 1 + 1, 0, none⟩) (by simp)).trans (by simp [go_sem])
    have hB2 : Below w1.heap.size w1 (w1.alloc (Obj.cells #[Value.pointer (some ⟨T, 0, none⟩)] 62)) := below1 _ _
    have d4 : (w1.alloc (Obj.cells #[Value.pointer (some ⟨T, 0, none⟩)] 62)).cell? ⟨w1.heap.size, 0, none⟩ = some (.pointer (some ⟨T, 0, none⟩)) := by simp [go_sem]
    have hz2 : w1.heap.size < (w1.alloc (Obj.cells #[Value.pointer (some ⟨T, 0, none⟩)] 62)).heap.size := by simp
    generalize (w1.alloc (Obj.cells #[Value.pointer (some ⟨T, 0, none⟩)] 62)) = w2 at *
    have e1 := (hB2.cell (p := ⟨w.heap.size, 0, none⟩) (by simp; omega)).trans d1
    have e2 := (hB2.cell (p := ⟨w.heap.size + 1, 0, none⟩) (by simp; omega)).trans d2
    have e3 := (hB2.cell (p := ⟨w.heap.size + 1 + 1, 0, none⟩) (by simp; omega)).trans d3
    have hBw2 := hBw.trans (hB2.mono hBw.size)
    have HT2 := Lib.hid (HT.out.call hB2)
    have hS2 := HS.out.call hB2
    obtain ⟨q0, q1, _, _⟩ := hS2.2 mi (by omega)
    have hSz2 := hS2.1
    obtain ⟨b5, o5, rfl, hbz5, hcs5⟩ := (HM.out.below hBw2) (by omega)
    obtain ⟨y0, y1⟩ := hcs5 mi hmi
    have e5 : m[mi].2 = limW m mi := by simp [limW, List.getD, hmi]
    rw [e5] at y1
    have HSU : Hid (limW m mi < sl[mi].1 ↔ SureP m l mi (List.range l.length)) := Lib.hid (by
      have := sure_spans HSP.out hmi (limW m mi)
      unfold SureP
      rw [some_all, ← this]
      simp [sF, List.getD, show mi < sl.length by omega])
    have HFE : Hid (∃ x, Feas m l x) := Lib.hid (by
      obtain ⟨x, hx, _⟩ := HSP.out.full mi hmi _ (Int.le_refl _) (HSP.out.le hmi)
      exact ⟨x, hx⟩)
    generalize sl[mi].1 = q at *
    generalize limW m mi = lm at *
    have b0 : (0 : Int) ≤ (mi : Int) := by omega
    have b1' : (mi : Int) < (m.length : Int) := by omega
    clear hcs5 y0 q1 hS2 d1 d2 d3
    cases hq : decide (q ≤ lm) with
    | true =>
      have HQ := Lib.hid hq
      go_quiet (fail)
      go_wp2
      go_ret2
      exact ⟨below_drewN hBw2 _, .inr (.inr (.inr (.inl ⟨HOK.out, HBB.out.trans HTT.out, HFE.out, fun h => by
        have := HSU.out.2 h
        have := of_decide_eq_true HQ.out
        omega, rfl⟩)))⟩
    | false =>
      have HQ := Lib.hid hq
      have hl12 : l.length ≤ 12 := HOK.out.2.1
      obtain ⟨N, hN⟩ : ∃ N : Nat, N = 2 ^ l.length := ⟨_, rfl⟩
      have hp12 : N ≤ 4096 := by rw [hN]; exact Nat.pow_le_pow_right (by decide) hl12
      have hp0 : 0 < N := by rw [hN]; exact Nat.two_pow_pos _
      have HN := Lib.hid hN
      have hpw : wrap64 ((2 : Int) ^ l.length) = (N : Int) := by
        have e : ((2 : Int) ^ l.length) = (N : Int) := by
          rw [hN]
          push_cast; rfl
        rw [e]
        exact wrap64_small (by omega)
      have HPW := Lib.hid hpw
      clear hN hpw
      have HSO : Hid (∀ g cap W, w2.heap.size ≤ g → g < W.heap.size → Below w2.heap.size w2 W → W.ownsRow w2.heap.size 71 1 (.slice (some ⟨g, 0, none⟩) N cap) N ((setsA N).map encS) →
          Calls Tryd.prog 35 #[.slice (some ⟨g, 0, none⟩) (N : Nat) cap, .func (.func 36) #[] #[]] W fun e w' => e = .returned (.tuple #[]) ∧ Below w2.heap.size w2 w' ∧ W.heap.size ≤ w'.heap.size ∧
            ∃ xs : List Set12, xs.length = N ∧ (∀ k (h : k < xs.length), w'.cell? ⟨g, k, none⟩ = some (encS xs[k])) ∧ (∀ k (h : k < xs.length), xs[k].1 < N) ∧
              ∃ i : Nat, ∃ hi : i < xs.length, idxI (sureB m l mi) xs = (i : Int) ∧ IsProof m l mi (bitsL (xs[i]).1)) := Lib.hid fun g cap W hg hgW hBW hown => by
        have hsz : (setsA N).toArray.size = N := by simp [setsA_len]
        have h := sort35 g cap (setsA N).toArray W ((HTab.out.below hBw2).below hBW) (tab_ne (HTab.out.below hBw2) hg) (holds_own hown (setsA_len _)) hgW (by omega)
        rw [hsz] at h
        refine h.mono ?_
        rintro e w' ⟨rfl, d', h1, h2, h3, h4⟩
        have hp : PermIn 0 (setsA N).toArray.size (setsA N).toArray d' := by rw [hsz]; exact h1
        have hs : SortedIn (ltOf cfS) 0 (setsA N).toArray.size d' := by rw [hsz]; exact h2
        have hds : d'.size = N := by rw [hp.1, hsz]
        refine ⟨rfl, ?_, h4.size, d'.toList, by simp [hds], fun k hk => ?_, fun k hk => set_lt hp12 rfl hp _ (List.getElem_mem hk), ?_⟩
        · exact hBW.trans (h4.below hBW.size (fun k hk e => by omega))
        · have hk' : k < d'.size := by simpa using hk
          have := (h3 k hk').1
          rw [Nat.zero_add, getElem!_pos d' k hk'] at this
          simpa using this
        · exact isProof_first hl12 _ d' (by rw [← HN.out]) hp hs (HSU.out.1 (by have := of_decide_eq_false HQ.out; omega))
      have HIX : Hid (∀ g cap (xs : List Set12) W, g < W.heap.size → Below w2.heap.size w2 W → xs.length = N → (∀ k (h : k < xs.length), W.cell? ⟨g, k, none⟩ = some (encS xs[k])) → (∀ k (h : k < xs.length), xs[k].1 < N) →
          Calls Tryd.prog 37 #[.slice (some ⟨g, 0, none⟩) (N : Nat) cap, .func (.func 38) #[] #[.pointer (some ⟨w.heap.size + 1, 0, none⟩), .pointer (some ⟨w1.heap.size, 0, none⟩), .pointer (some ⟨w.heap.size + 1 + 1, 0, none⟩), .pointer (some ⟨w.heap.size, 0, none⟩)]] W fun e w' => e = .returned (I (idxI (sureB m l mi) xs)) ∧ Below W.heap.size W w') := Lib.hid fun g cap xs W hg hBW hlx hx hlt => by
        rw [← hlx]
        refine idx37 (sureB m l mi) 38 _ (enters_of Tryd.func38 (by kernel_rfl) rfl) g cap xs W hg hx (by omega) fun k hk W' hB' => ?_
        have hBW' : Below w2.heap.size w2 W' := hBW.trans (hB'.mono hBW.size)
        have hBx := hBw2.trans (hBW'.mono hBw2.size)
        have hzz := hBW'.size
        exact clo38 (w.heap.size + 1) w1.heap.size (w.heap.size + 1 + 1) w.heap.size T c cb mi (some ⟨b5, o5, none⟩) B m l xs[k] W' (by rw [← HN.out]; exact hlt k hk) (HT2.out.call hBW') ((HLL.out.below hBx).more hBx.size) hl12 HOK.out.2.2 HFE.out hmi ((HTab.out.below hBw2).below hBW')
          ⟨by omega, by omega, by omega, by omega⟩ ((hBW'.cell (p := ⟨w.heap.size + 1, 0, none⟩) (by simp; omega)).trans e2) ((hBW'.cell (p := ⟨w1.heap.size, 0, none⟩) (by simp; omega)).trans d4)
          ((hBW'.cell (p := ⟨w.heap.size + 1 + 1, 0, none⟩) (by simp; omega)).trans e3) ((hBW'.cell (p := ⟨w.heap.size, 0, none⟩) (by simp; omega)).trans e1)
      have HLS : Hid (∀ (s : Nat) W, s < 4096 → Below w2.heap.size w2 W → Calls Tryd.prog 39 #[.int .u64 s] W fun e w' => ∃ v, e = .returned v ∧ w'.ownsRow W.heap.size 3 1 v (bitsL s).length ((bitsL s).map fun k : Nat => I (k : Int)) ∧ Lays W w') := Lib.hid fun s W hs hBW => list39 s hs W ((HTab.out.below hBw2).below hBW)
      go_quiet (fail)
      go_wp2
      rw [HPW.out]
      clear HPW
      have hB3 : Below w2.heap.size w2 (w2.drewN nq) := below_drewN (Below.refl _ _) _
      go_loopw [11, 39] (fun s11 s39 wr => ∃ k : Nat, k ≤ N ∧ s39 = I k ∧ Below w2.heap.size w2 wr ∧ Hid (wr.ownsRow w2.heap.size 71 1 s11 k ((setsA k).map encS))) (fun _ s _ => N - (intOf s).toNat)
      case atStart => exact ⟨0, Nat.zero_le _, rfl, hB3, Lib.hid ⟨by simp [setsA], .inl ⟨rfl, rfl⟩⟩⟩
      case round =>
        obtain ⟨k, hk, rfl, hB, HO⟩ := hrel
        have hz := hB.size
        by_cases hlt : k < N
        · go_wp2_with (first
            | (at_builtin; refine wpList_append_own _ rfl _ _ 69 rfl w2.heap.size 71 i0 (.int .u64 0) 1 8 HU.out HI0.out HI1.out HI2.out HI3.out rfl (by decide) _ _ _ rfl (HO.out.alloc _) ⟨wr.heap.size, 0, none⟩ 1 1 [.int .u64 (k : Int)] rfl rfl (cell_one_new _ _ _) (by simp [Value.oneCell']) (by unfold maxLen; omega) (by omega) (by simp; omega) ?_; intro v' w4 hown' hgrow _; have HO1 := Lib.hid hown'; clear hown')
            | fail)
          have hB4 : Below w2.heap.size w2 w4 := (hB.alloc hz _).grown hgrow (by simp; omega) (fun g e => (HO.out.lt g e).1)
          have hO2 : Hid (w4.ownsRow w2.heap.size 71 1 v' (k + 1) ((setsA (k + 1)).map encS)) := Lib.hid (by rw [setsA_succ, List.map_append]; simpa [encS, Nat.mod_eq_of_lt (show k < 4096 by omega)] using HO1.out)
          clear hgrow HO1
          go_wp2
          go_roundw
          case rel => exact ⟨k + 1, by omega, by go_num, hB4, hO2⟩
          case measure => simp [intOf]; omega
        · obtain rfl : N = k := by omega
          rcases own_form2 HO.out with ⟨h1, h2⟩ | ⟨g, cap, rfl, hg1, hg2, hg3, hg4⟩
          · omega
          · go_wp2_with (first
              | (go_at_call 35; refine (HSO.out _ _ _ hg1 hg2 hB HO.out).mono ?_; rintro e w5 ⟨rfl, hB5, hz5, xs, hxl, hxc, hxs, i, hi, hix, hip⟩; have HXC := Lib.hid hxc; have HXS := Lib.hid hxs; have HIP := Lib.hid hip; have HII := Lib.hid hix; clear hxc hxs hip hix)
              | (go_at_call 37; refine (HIX.out _ _ _ _ (by omega) hB5 hxl HXC.out HXS.out).mono ?_; rintro e w6 ⟨rfl, hB6⟩; rw [HII.out]; have hB6w : Below w2.heap.size w2 w6 := hB5.trans (hB6.mono hB5.size); have hc6 := (hB6.cell (p := ⟨g, i, none⟩) (by simp; omega)).trans (HXC.out i hi); rw [show encS xs[i] = .int .u64 (xs[i].1 : Int) from rfl] at hc6; have hx4 : xs[i].1 < 4096 := xs[i].2; generalize xs[i].1 = sv at *)
              | (go_at_call 39; refine (HLS.out sv _ hx4 hB6w).mono ?_; rintro e w7 ⟨v, rfl, hO7, hL7⟩; have HO7 := Lib.hid hO7; have HL7 := Lib.hid hL7; clear hO7 hL7)
              | fail)
            go_ret2
            have hB7 : Below w2.heap.size w2 w7 := hB6w.trans (HL7.out.1.mono hB6w.size)
            exact ⟨hBw2.trans (hB7.mono hBw2.size), .inr (.inr (.inr (.inr ⟨HOK.out, HBB.out.trans HTT.out, HFE.out, v, bitsL sv, rfl, own_base HO7.out (by have := hB6w.size; have := hBw2.size; omega), HIP.out⟩)))⟩
end Go.Proofs.YtgdilbilhajgaaaDoor
