/- The document's fewest: the first of the shortest lists that are enough. -/
import Derived.Test.YtijgfdncocjncaaD12
namespace Go.Proofs.Ytijgfdncocjncaa
set_option linter.unusedVariables false
set_option linter.unusedSimpArgs false
open Go Go.RowKit

def Rws (w : World) (A : Option Addr) (LL : List (List Nat)) : Prop :=
  0 < LL.length → ∃ g, A = some ⟨g, 0, none⟩ ∧ g < w.heap.size ∧ ∀ k (h : k < LL.length), ∃ Ak ck, w.cell? ⟨g, k, none⟩ = some (.slice Ak (LL[k]).length ck) ∧ w.ownsRow 0 3 1 (.slice Ak (LL[k]).length ck) (LL[k]).length (natI LL[k])
theorem Rws.below {w w' : World} {A : Option Addr} {LL : List (List Nat)} (h : Rws w A LL) (hB : Below w.heap.size w w') : Rws w' A LL := fun h0 => by
  obtain ⟨g, h1, h2, h3⟩ := h h0
  have := hB.size
  refine ⟨g, h1, by omega, fun k hk => ?_⟩
  obtain ⟨Ak, ck, h4, h5⟩ := h3 k hk
  exact ⟨Ak, ck, (hB.cell (p := ⟨g, k, none⟩) h2).trans h4, grown_own h5 hB⟩
theorem OutOk.rws {w : World} {base : Nat} {O : Value} {LL : List (List Nat)} (h : OutOk w base O LL) : ∃ A c, O = .slice A LL.length c ∧ Rws w A LL := by
  obtain ⟨Vs, h1, h2⟩ := h
  have hlv : Vs.length = LL.length := by have := h1.1; omega
  rcases own_form h1 with ⟨h3, h4⟩ | ⟨g, cap, h3, _, h5, _⟩
  · exact ⟨none, 0, by rw [h3, h4], fun h0 => by omega⟩
  · subst h3
    refine ⟨_, _, rfl, fun _ => ⟨g, rfl, h5, fun k hk => ?_⟩⟩
    obtain ⟨v, h6, h7⟩ := h2 k hk
    have hc := h1.cells (g := g) rfl k v h6
    rw [Addr.add_lit, Nat.zero_add] at hc
    obtain ⟨Ak, kk, ck, hv⟩ := own_slice h7
    obtain rfl := own_lenS h7 hv
    subst hv
    exact ⟨Ak, ck, hc, h7⟩
theorem own_ints {w : World} {A : Option Addr} {c : Nat} {l : List Nat} (h : w.ownsRow 0 3 1 (.slice A l.length c) l.length (natI l)) : Ints w w.heap.size A (l.map fun i : Nat => (i : Int)) := by
  rw [natI_map] at h
  exact ints_of_own h (by simp)
theorem keep_grownE {w w' : World} {base n m size : Nat} {e : TypeId} {O v : Value} {Vs xs : List Value} (he : e ≠ 3) (h : w.ownsRow base e size O n Vs) (hg : w.grownBy w' O.ownBlock) (hi : w.ownsRow 0 3 1 v m xs) : w'.ownsRow 0 3 1 v m xs := hi.kept hg (by
  rcases hi.2 with ⟨rfl, _⟩ | ⟨g, cap, cur, rfl, _, h1, _⟩
  · exact .inl rfl
  · refine .inr fun e1 => ?_
    rcases h.2 with ⟨rfl, _⟩ | ⟨g', cap', cur', rfl, _, h2, _⟩
    · cases e1
    · simp only [Value.ownBlock, Option.some.injEq] at e1
      subst e1
      rw [h1] at h2
      injection h2 with h2
      injection h2 with _ h2
      exact he h2.symm)
theorem OutOk.nil (w : World) (base : Nat) : OutOk w base (.slice none 0 0) [] := ⟨[], World.ownsRow_nil _ _ _ _, fun k hk => absurd hk (by simp)⟩
theorem choose_rws (base n cs : Nat) (l : List Nat) (S : Option Addr) (w : World) (hbz : base ≤ w.heap.size) (hcs : l.length ≤ cs) (hl : l.length ≤ 6) (hn : n ≤ 6) (hS : Ints w base S (l.map fun i : Nat => (i : Int))) :
    Calls Try.prog 56 #[.slice S l.length cs, I n, .slice none 0 0, .slice none 0 0] w fun e w' => ∃ A c, e = .returned (.slice A (chs l n).length c) ∧ Rws w' A (chs l n) ∧ Below base w w' := by
  have h2 := chs_len l n
  have h3 : 2 ^ l.length ≤ 2 ^ 6 := Nat.pow_le_pow_right (by omega) hl
  have h := choose56 base n l S cs [] none 0 (.slice none 0 0) [] w hbz hcs (by omega) (by simp; omega) hS (World.ownsRow_nil _ _ _ _) (OutOk.nil _ _) (by simp; omega)
  refine h.mono ?_
  rintro e w' ⟨O', rfl, hO, _, hB⟩
  have hO' : OutOk w' base O' (chs l n) := by simpa using hO
  obtain ⟨A, c, rfl, hR⟩ := hO'.rws
  exact ⟨A, c, rfl, hR, hB⟩
def fnd40 (x : Wat) (t n : Nat) : Option (List Nat) := (chs (srcs x t) n).find? (enB x t)
theorem fnd_none {x : Wat} {t n : Nat} (h : ∀ k (hk : k < (chs (srcs x t) n).length), enB x t (chs (srcs x t) n)[k] = false) : fnd40 x t n = none := List.find?_eq_none.2 fun a ha => by
  obtain ⟨k, hk, rfl⟩ := List.getElem_of_mem ha
  rw [h k hk]
  simp
theorem fnd_some {x : Wat} {t n k : Nat} (hk : k < (chs (srcs x t) n).length) (h : ∀ j (hj : j < (chs (srcs x t) n).length), j < k → enB x t (chs (srcs x t) n)[j] = false) (h2 : enB x t (chs (srcs x t) n)[k] = true) : fnd40 x t n = some (chs (srcs x t) n)[k] := by
  unfold fnd40
  rw [List.find?_eq_some_iff_getElem]
  exact ⟨h2, k, hk, rfl, fun j hj => by rw [h j (by omega) hj]; rfl⟩
theorem findSome_range_at {β : Type} {g : Nat → Option β} {b : β} {n : Nat} (h : ∀ c, c < n → g c = none) (h2 : g n = some b) : ∀ k : Nat, n < k → (List.range k).findSome? g = some b
  | 0, hk => by omega
  | k + 1, hk => by
    rw [List.range_succ, List.findSome?_append]
    by_cases e : n < k
    · rw [findSome_range_at h h2 k e]
      rfl
    · obtain rfl : n = k := by omega
      rw [List.findSome?_eq_none_iff.2 fun c hc => h c (List.mem_range.1 hc), Option.none_or, List.findSome?_cons, h2]
theorem few_yes {x : Wat} {t n : Nat} {l : List Nat} (hn : n ≤ (srcs x t).length) (h : ∀ c, c < n → fnd40 x t c = none) (h2 : fnd40 x t n = some l) : fewT x t = some l := findSome_range_at (g := fnd40 x t) h h2 _ (by omega)
theorem few_no {x : Wat} {t : Nat} (h : ∀ c, c < (srcs x t).length + 1 → fnd40 x t c = none) : fewT x t = none := List.findSome?_eq_none_iff.2 fun c hc => h c (List.mem_range.1 hc)
theorem none_succ {f : Nat → Option (List Nat)} {n : Nat} (h : ∀ c, c < n → f c = none) (h2 : f n = none) : ∀ c, c < n + 1 → f c = none := fun c hc => by
  by_cases e : c < n
  · exact h c e
  · obtain rfl : c = n := by omega
    exact h2
set_option maxRecDepth 100000 in
set_option maxHeartbeats 8000000 in
theorem fewest40 (x : Wat) (A B : Option Addr) (c d : Nat) (t : Nat) (w : World) (hx : WatOk x) (hW : WatAt w x A B) (ht : t < x.hb.length) :
    Calls Try.prog 40 #[x.val A c B d, I t] w fun e w' => ∃ A' c', e = .returned (.tuple #[.slice A' ((fewT x t).getD []).length c', .bool (fewT x t).isSome]) ∧ w'.ownsRow 0 3 1 (.slice A' ((fewT x t).getD []).length c') ((fewT x t).getD []).length (natI ((fewT x t).getD [])) ∧ Below w.heap.size w w' := by
  have hn6 : x.hb.length ≤ 6 := hx.n6
  have H35 : Hid (∀ W, Below w.heap.size w W → Calls Try.prog 35 #[x.val A c B d, I t] W fun e w' => ∃ A' c', e = .returned (.slice A' (srcs x t).length c') ∧ Ints w' w'.heap.size A' ((srcs x t).map fun i : Nat => (i : Int)) ∧ Below W.heap.size W w' ∧ (srcs x t).length ≤ c') := Lib.hid fun W h => (sources35c x A B c d t W hx (hW.below h) ht).mono fun e w' ⟨A', c', h1, h2, h3, h4, _⟩ => ⟨A', c', h1, h2, h3, h4⟩
  have H43 : Hid (∀ (l : List Nat) (S : Option Addr) (cs : Nat) W, Below w.heap.size w W → l.length ≤ 64 → Ints W W.heap.size S (l.map fun i : Nat => (i : Int)) → Calls Try.prog 43 #[x.val A c B d, I t, .slice S l.length cs] W fun e w' => e = .returned (.bool (enB x t l)) ∧ Below W.heap.size W w') := Lib.hid fun l S cs W h hl hS => enough43 x A B c d t S cs l W hx (hW.below h) ht hl hS
  have hsn := Nat.le_trans (srcs_len x t) (show x.n ≤ 6 from hn6)
  have HCH : Hid (∀ (base n cs : Nat) (S : Option Addr) W, base ≤ W.heap.size → (srcs x t).length ≤ cs → n ≤ 6 → Ints W base S ((srcs x t).map fun i : Nat => (i : Int)) → Calls Try.prog 56 #[.slice S (srcs x t).length cs, I n, .slice none 0 0, .slice none 0 0] W fun e w' => ∃ A c, e = .returned (.slice A (chs (srcs x t) n).length c) ∧ Rws w' A (chs (srcs x t) n) ∧ Below base W w') := Lib.hid fun base n cs S W h1 h2 h3 h4 => choose_rws base n cs (srcs x t) S W h1 h2 hsn h3 h4
  have HCL : Hid (∀ n, (chs (srcs x t) n).length ≤ 64) := Lib.hid fun n => Nat.le_trans (chs_len _ _) (show 2 ^ (srcs x t).length ≤ 2 ^ 6 from Nat.pow_le_pow_right (by omega) hsn)
  have HCE : Hid (∀ n k (h : k < (chs (srcs x t) n).length), ((chs (srcs x t) n)[k]).length ≤ 64) := Lib.hid fun n k h => by
    have h1 := ((mem_chs _ _ _).1 (List.getElem_mem h)).1.length_le
    omega
  have HFN := Lib.hid fun n => @fnd_none x t n
  have HFS := Lib.hid fun n k => @fnd_some x t n k
  have HFY := Lib.hid fun n l => @few_yes x t n l
  have HFO := Lib.hid (@few_no x t)
  have HB0 : Hid (Below w.heap.size w (w.alloc (.cells #[.slice A x.hb.length c, .slice B x.er.length d, I x.en] 25))) := Lib.hid (by (repeat' (first | assumption | exact Below.refl _ _ | refine Below.drew ?_ | refine below_drewN ?_ _ | refine Below.setCell ?_ (by first | omega | (simp; done) | (simp; omega)) _ | refine Below.alloc ?_ (by first | omega | (simp; done) | (simp; omega)) _ | refine Below.trans ?_ (Below.mono (by assumption) (by first | omega | (simp; done) | (simp; omega))))))
  have HX0 : Hid (Box (w.alloc (.cells #[.slice A x.hb.length c, .slice B x.er.length d, I x.en] 25)) w.heap.size [.slice A x.hb.length c, .slice B x.er.length d, I x.en]) := Lib.hid (Box.new w [.slice A x.hb.length c, .slice B x.er.length d, I x.en] 25)
  have HZ0 : Hid ((w.alloc (.cells #[.slice A x.hb.length c, .slice B x.er.length d, I x.en] 25)).heap.size = w.heap.size + 1) := Lib.hid (by simp)
  clear hx hW
  unfold Wat.val at H35 H43 ⊢
  obtain ⟨en, hen2⟩ : ∃ en, x.en = en := ⟨_, rfl⟩
  rw [hen2] at H35 H43 HB0 HX0 HZ0 ⊢
  clear hen2
  obtain ⟨n, hn⟩ : ∃ n, (srcs x t).length = n := ⟨_, rfl⟩
  rw [hn] at H35 HCH HFO hsn
  replace HFY : Hid (∀ m l, m ≤ n → (∀ c, c < m → fnd40 x t c = none) → fnd40 x t m = some l → fewT x t = some l) := Lib.hid fun m l h => HFY.out m l (by rw [hn]; exact h)
  clear hn
  generalize (srcs x t).map (fun i : Nat => (i : Int)) = sl at *
  go_enter Try.func40, Try.ntmps40
  go_wp2_with (first
    | (go_at_call 35; generalize (w.alloc (.cells #[.slice A x.hb.length c, .slice B x.er.length d, I en] 25)) = wa at *; refine (H35.out _ HB0.out).mono ?_; rintro e w1 ⟨S5, c5, rfl, hS5, hB1, hc5⟩)
    | fail)
  have hza := HZ0.out
  have hz1 := hB1.size
  have HB1 : Hid (Below w.heap.size w w1) := Lib.hid (HB0.out.trans (hB1.mono (by omega)))
  have HX1 := Lib.hid (HX0.out.call hB1)
  have HS5 := Lib.hid hS5
  clear hB1 HB0 HX0 hS5
  go_loopw [7] (fun s7 wr => ∃ m : Nat, m ≤ n + 1 ∧ s7 = I m ∧ Below w1.heap.size w1 wr ∧ Hid (∀ c, c < m → fnd40 x t c = none)) (fun s _ => n + 1 - (intOf s).toNat)
  case atStart => exact ⟨0, by omega, rfl, Below.refl _ _, Lib.hid fun c h => by omega⟩
  case round =>
    obtain ⟨m, hm, rfl, hB, HNO⟩ := hrel
    have hzr := hB.size
    by_cases hlt : m < n + 1
    · have HC8 := Lib.hid (HCH.out w1.heap.size m c5 S5 wr hzr hc5 (by omega) (HS5.out.below hB))
      have p0 : (m : Int) ≤ (n : Int) := by omega
      go_wp2_with (first
        | (go_at_call 56; refine HC8.out.mono ?_; rintro e w3 ⟨A8, c8, rfl, hR8, hB3⟩)
        | fail)
      have hz3 := hB3.size
      have HB3 : Hid (Below w1.heap.size w1 w3) := Lib.hid (hB.trans hB3)
      have HR8 := Lib.hid hR8
      have hll := HCL.out m
      have HCEm := Lib.hid (HCE.out m)
      have HFNm := Lib.hid (@fnd_none x t m)
      have HFSm := Lib.hid fun k => @fnd_some x t m k
      have HFYm := Lib.hid fun l => HFY.out m l (by omega) HNO.out
      generalize chs (srcs x t) m = LL at *
      clear hB3 hR8 HC8 HCH HCL HCE HFN HFS HFY H35
      go_loopw [9] (fun s9 wi => ∃ k : Nat, k ≤ LL.length ∧ s9 = I k ∧ Below w3.heap.size w3 wi ∧ Hid (∀ j (h : j < LL.length), j < k → enB x t LL[j] = false)) (fun s _ => LL.length - (intOf s).toNat)
      case atStart => exact ⟨0, by omega, rfl, Below.refl _ _, Lib.hid fun j h h2 => by omega⟩
      case round =>
        obtain ⟨k, hk, rfl, hBk, HEK⟩ := hrel
        have hzk := hBk.size
        have hB1k := HB3.out.trans (hBk.mono (by omega))
        have hBkw := HB1.out.trans (hB1k.mono (by omega))
        by_cases hlk : k < LL.length
        · obtain ⟨g8, rfl, hg8, hc8⟩ := HR8.out (by omega)
          obtain ⟨Ak, ck, hck, hIk⟩ := hc8 k hlk
          have HIK : Hid (∀ W, Below wr.heap.size wr W → W.ownsRow 0 3 1 (.slice Ak (LL[k]).length ck) (LL[k]).length (natI LL[k])) := Lib.hid fun W hW => grown_own hIk (hBk.trans (hW.mono hzk))
          have H43k := Lib.hid fun W (h : Below wr.heap.size wr W) => H43.out LL[k] Ak ck W (hBkw.trans (h.mono hBkw.size)) (HCEm.out k hlk) (own_ints (HIK.out W h))
          have HCK : Hid (∀ W, Below wr.heap.size wr W → W.cell? ⟨w.heap.size, 0, none⟩ = some (.slice A x.hb.length c) ∧ W.cell? ⟨w.heap.size, 1, none⟩ = some (.slice B x.er.length d) ∧ W.cell? ⟨w.heap.size, 2, none⟩ = some (I en) ∧ W.cell? ⟨g8, k, none⟩ = some (.slice Ak (LL[k]).length ck)) := Lib.hid fun W hW => by
            have hx := HX1.out.call (hB1k.trans (hW.mono hB1k.size))
            exact ⟨(hx.at_ 0 _ rfl).1, (hx.at_ 1 _ rfl).1, (hx.at_ 2 _ rfl).1, ((hBk.trans (hW.mono hzk)).cell (p := ⟨g8, _, none⟩) hg8).trans hck⟩
          have HFSk := Lib.hid (HFSm.out k hlk HEK.out)
          have HEKn : Hid (enB x t LL[k] = false → ∀ j (h : j < LL.length), j < k + 1 → enB x t LL[j] = false) := Lib.hid fun h0 j h h2 => by
            by_cases e : j < k
            · exact HEK.out j h e
            · obtain rfl : j = k := by omega
              exact h0
          have r0 : (0 : Int) ≤ (k : Int) := by omega
          have r1 : (k : Int) < (LL.length : Int) := by omega
          clear hc8 hck hIk HR8
          generalize LL[k] = lk at *
          obtain ⟨eb, heb⟩ : ∃ eb, enB x t lk = eb := ⟨_, rfl⟩
          rw [heb] at H43k HFSk HEKn
          clear heb
          obtain ⟨x0_, x1_, x2_, s0_⟩ := HCK.out wr (Below.refl _ _)
          go_wp2_with (fail)
          refine (wpIn_wide (n := 9)).1 ?_
          refine wpIn_region_text [0, 1, 2, 3, 4, 5, 6] rfl (by kernel_rfl) (by kernel_rfl) (fun _ d _ _ _ h => by cases d <;> exact h) ?_
          iterate 6 (refine ordT_li rfl rfl (fun K hK => ?_); go_simp; refine hK _ ?_; clear hK K)
          (refine ordT_hv rfl rfl rfl (fun K hK => ?_))
          gi_wp2_with (first | (refine And.intro trivial ?_; gi_at_call 43; refine (callsIn_wide.2 (H43k.out _ (Below.refl _ wr).drew)).mono ?_; rintro e w6 ⟨rfl, hB6⟩) | fail)
          have hCo : Below wr.heap.size wr w6 := (Below.refl _ wr).drew.trans hB6
          refine ordT_nil ?_
          obtain ⟨y0_, y1_, y2_, t0_⟩ := HCK.out w6 hCo
          have hIK6 := Lib.hid (HIK.out w6 hCo)
          have HB6 : Hid (Below w3.heap.size w3 w6) := Lib.hid (hBk.trans (hCo.mono hzk))
          have HBw6 : Hid (Below w.heap.size w w6) := Lib.hid (hBkw.trans (hCo.mono hBkw.size))
          clear x0_ x1_ x2_ s0_ HCK HIK hB6 hCo
          cases eb
          · have HEKs := Lib.hid (HEKn.out rfl)
            go_wp2_with (fail)
            go_roundw
            case rel => first | exact ⟨k + 1, by omega, by go_num, HB6.out, HEKs⟩ | ((repeat apply Exists.intro); refine ⟨?_, rfl⟩; exact ⟨k + 1, by omega, by go_num, HB6.out, HEKs⟩)
            case measure => first | (simp [intOf]; done) | (simp [intOf]; omega)
          · have HFE := Lib.hid (HFYm.out _ (HFSk.out rfl))
            go_wp2_with (fail)
            exact bodyPost_ret (v := .tuple #[.slice Ak lk.length ck, .bool true]) (by simp [results, Try.results40, go_sem]) rfl ⟨Ak, ck, by rw [HFE.out]; rfl, by rw [HFE.out]; exact hIK6.out, HBw6.out⟩
        · obtain rfl : k = LL.length := by omega
          have HNN := Lib.hid (none_succ HNO.out (HFNm.out fun j hj => HEK.out j hj hj))
          go_wp2_with (fail)
          go_roundw
          case rel => first | exact ⟨m + 1, by omega, by go_num, hB1k, HNN⟩ | ((repeat apply Exists.intro); refine ⟨?_, rfl⟩; exact ⟨m + 1, by omega, by go_num, hB1k, HNN⟩)
          case measure => first | (simp [intOf]; done) | (simp [intOf]; omega)
    · obtain rfl : m = n + 1 := by omega
      have HFE := Lib.hid (HFO.out HNO.out)
      have q0 : ¬ ((n : Int) + 1 ≤ (n : Int)) := by omega
      have q1 : ¬ (((n + 1 : Nat) : Int) ≤ (n : Int)) := by omega
      go_wp2_with (fail)
      exact bodyPost_ret (v := .tuple #[.slice none 0 0, .bool false]) (by simp [results, Try.results40, go_sem]) rfl ⟨none, 0, by rw [HFE.out]; rfl, by rw [HFE.out]; exact World.ownsRow_nil _ _ _ _, HB1.out.trans (hB.mono HB1.out.size)⟩
end Go.Proofs.Ytijgfdncocjncaa
