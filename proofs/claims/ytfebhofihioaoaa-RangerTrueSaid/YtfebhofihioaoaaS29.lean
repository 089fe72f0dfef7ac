/- A crowd by remainders, of the laws. -/
import Derived.Test.YtfebhofihioaoaaA8
import Derived.Test.YtfebhofihioaoaaS16
namespace Go.Proofs.Ytfebhofihioaoaa
set_option linter.unusedVariables false
set_option linter.unusedSimpArgs false
open Go Go.RowKit

def U32W (w : World) (B : Nat) (A : Option Addr) (ys : List Int) : Prop := 0 < ys.length → ∃ b off, A = some ⟨b, off, none⟩ ∧ b < B ∧ ∀ k (h : k < ys.length), w.cell? ⟨b, off + k, none⟩ = some (.int .u32 ys[k])
theorem U32W.below {w w' : World} {B : Nat} {A : Option Addr} {ys : List Int} (h : U32W w B A ys) (hb : Below B w w') : U32W w' B A ys := fun h0 => by
  obtain ⟨b, off, e, hbz, hc⟩ := h h0
  exact ⟨b, off, e, hbz, fun k hk => (hb.cell (p := ⟨_, _, none⟩) hbz).trans (hc k hk)⟩
theorem U32W.more {w : World} {B B' : Nat} {A : Option Addr} {ys : List Int} (h : U32W w B A ys) (hB : B ≤ B') : U32W w B' A ys := fun h0 => by
  obtain ⟨b, off, e, hbz, hc⟩ := h h0
  exact ⟨b, off, e, by omega, hc⟩
theorem sum_hi {x : Prk} (hx : PrkOk x) {k : Nat} (hk : k ≤ x.n) : 0 ≤ sumN x.hi k ∧ sumN x.hi k ≤ 6291456 := sum_crowd hx hk fun j hj => ⟨(hx.peo j (by omega)).2.1, Int.le_refl _⟩
theorem some_more {x : Prk} {tot mo : Int} {out : Nat → Int} (hx : PrkOk x) (h : SomeI x tot out mo) : (0 ≤ mo ∧ mo ≤ 6291456 + tot) ∧ ∀ i, i < x.n → (0 ≤ out i ∧ out i ≤ x.hi i) ∧ x.hi i ≤ 1048576 := by
  refine ⟨⟨h.more0, ?_⟩, fun i hi => ?_⟩
  · have h1 := h.sum_
    have h2 := (sum_crowd hx (Nat.le_refl _) fun j hj => h.in_ j hj).1
    omega
  · have h1 := h.in_ i hi
    have h2 := hx.peo i hi
    omega
/-- One turn. -/
structure TurnI (x : Prk) (tot : Int) (r k : Nat) (dl : List Int) (mo : Int) : Prop where
  s : SomeI x tot (crF dl) mo
  f : FullT x r k (crF dl) mo
theorem TurnI.step {x : Prk} {tot mo : Int} {r k : Nat} {dl : List Int} (h : TurnI x tot r k dl mo) (hd : dl.length = x.n) (hn : 0 < x.n) {i : Nat} (hi : (k + r) % x.n = i) {m : Int} (h0 : 0 ≤ m) (h1 : m ≤ min mo (x.hi i - crF dl i)) (h2 : k < x.n ∨ m = min mo (x.hi i - crF dl i)) : TurnI x tot r (k + 1) (dl.set i (crF dl i + m)) (mo - m) := by
  have hin : i < x.n := by rw [← hi]; exact Nat.mod_lt _ hn
  have hs : ∀ j, j < x.n → crF (dl.set i (crF dl i + m)) j = if j = i then crF dl i + m else crF dl j := fun j hj => by rw [crF_set (by omega)]
  refine ⟨h.s.step hin h0 h1 hs, ?_⟩
  rcases h2 with h2 | h2
  · exact FullT.start x r h2 _ _
  · have := h.f.step h.s hn (out' := crF (dl.set i (crF dl i + m))) (fun j hj => by rw [hs j hj, hi, h2])
    rw [hi, ← h2] at this
    exact this
theorem TurnI.done {x : Prk} {tot mo : Int} {r : Nat} {dl : List Int} (h : TurnI x tot r (2 * x.n) dl mo) (h1 : x.alo ≤ tot) (h2 : tot ≤ x.ahi) (h3 : tot ≤ sumN x.hi x.n) : Possible x (crF dl) := by
  have h0 : mo = 0 := by
    rcases Nat.eq_zero_or_pos x.n with hn | hn
    · have a := h.s.sum_
      have b := h.s.more0
      rw [hn] at a h3
      simp only [sumN] at a h3
      omega
    · exact FullT.done h.s hn h.f h3
  subst h0
  exact h.s.possible h1 h2
set_option maxRecDepth 100000 in
set_option maxHeartbeats 8000000 in
theorem some22 (x : Prk) (A B : Option Addr) (c d : Nat) (ys : List Int) (w : World) (hx : PrkOk x) (hA : Fours w w.heap.size A x.sp) (hy : U32W w w.heap.size B ys) (hy0 : 0 < ys.length) (hyl : ys.length ≤ 9223372036854775807) (hyb : ∀ y ∈ ys, 0 ≤ y ∧ y ≤ 4294967295) :
    Calls Try.prog 22 #[x.val A c, .slice B ys.length d] w fun e w' => ∃ (D : Option Addr) (g : Nat) (cl : List Int), e = .returned (.slice D x.sp.length g) ∧ Ints w' w'.heap.size D cl ∧ cl.length = x.sp.length ∧ Possible x (crF cl) ∧ Below w.heap.size w w' := by
  have HX := Lib.hid hx
  have hn6 : x.sp.length ≤ 6 := hx.n6
  obtain ⟨i0, hi0, hi1, hi2, hi3⟩ := info_parts info3
  have HI0 := Lib.hid hi0; have HI1 := Lib.hid hi1; have HI2 := Lib.hid hi2; have HI3 := Lib.hid hi3
  have hu : Try.prog.underlying 27 = some (.slice 3) := Try.underlying27
  have HU := Lib.hid hu
  have HLO : Hid (∀ k (h : k < x.sp.length), x.sp[k].1 = x.lo k ∧ x.sp[k].2.1 = x.hi k ∧ x.sp[k].2.2.1 = x.ho k ∧ x.sp[k].2.2.2 = x.ne k) := Lib.hid fun k h => by simp [Prk.lo, Prk.hi, Prk.ho, Prk.ne, List.getD, h]
  have HA := Lib.hid hA
  have HSL : Hid (∀ k, k ≤ x.sp.length → (0 ≤ sumN x.lo k ∧ sumN x.lo k ≤ 6291456) ∧ 0 ≤ sumN x.hi k ∧ sumN x.hi k ≤ 6291456) := Lib.hid fun k hk => ⟨sum_lo hx hk, sum_hi hx hk⟩
  have HSS : Hid (∀ k, sumN x.lo (k + 1) = sumN x.lo k + x.lo k ∧ sumN x.hi (k + 1) = sumN x.hi k + x.hi k) := Lib.hid fun k => ⟨rfl, rfl⟩
  have HALL := Lib.hid hx.all
  have HTOT : Hid (∀ r : Int, 0 ≤ r → _) := Lib.hid fun r hr => some_tot hx hr
  have hy1 := hy hy0
  have HYB := Lib.hid hyb
  obtain ⟨yb, yo, hye, hyz, hyc⟩ := hy1
  subst hye
  have HYC := Lib.hid hyc
  have HSTA : Hid (∀ (cl : List Int) (mo : Int) (r : Nat), cl = loL x x.sp.length → 0 ≤ mo → TurnI x (sumN x.lo x.sp.length + mo) r 0 cl mo) := Lib.hid fun cl mo r h h0 => by
    subst h
    refine ⟨⟨fun i hi => ?_, h0, ?_⟩, FullT.start x r (Nat.zero_le _) _ _⟩
    · rw [crF_lo x (show i < x.sp.length from hi)]
      exact ⟨Int.le_refl _, (hx.peo i hi).2.1⟩
    · rw [show sumN (crF (loL x x.sp.length)) x.n = sumN x.lo x.sp.length from sumN_congr fun i hi => crF_lo x hi]
  clear hA hx hi0 hi1 hi2 hi3 hu hy hyb hyc
  have hall := HALL.out
  simp only [Prk.val]
  generalize hal : x.alo = al at *
  generalize hah : x.ahi = ah at *
  have HAL := Lib.hid hal
  have HAH := Lib.hid hah
  clear hal hah
  have HCP : Hid (∀ W, Below (w.heap.size + 1) (w.alloc (.cells #[.slice A x.sp.length c, I al, I ah] 26)) W → W.cell? ⟨w.heap.size, 0, none⟩ = some (.slice A x.sp.length c) ∧ W.cell? ⟨w.heap.size, 1, none⟩ = some (I al) ∧ W.cell? ⟨w.heap.size, 2, none⟩ = some (I ah) ∧ Below w.heap.size w W) := Lib.hid fun W hW =>
    ⟨(hW.cell (p := ⟨_, _, none⟩) (by simp)).trans (by simp [go_sem]), (hW.cell (p := ⟨_, _, none⟩) (by simp)).trans (by simp [go_sem]), (hW.cell (p := ⟨_, _, none⟩) (by simp)).trans (by simp [go_sem]), (below1 w _).trans (hW.mono (by omega))⟩
  have HYW : Hid (∀ W, Below w.heap.size w W → ∀ j (h : j < ys.length), W.cell? ⟨yb, yo + j, none⟩ = some (.int .u32 ys[j])) := Lib.hid fun W hW j hj => (hW.cell (p := ⟨_, _, none⟩) hyz).trans (HYC.out j hj)
  have HIB : Hid (∀ W, Below w.heap.size w W → ∀ k, k < x.sp.length → ∃ ab ao, A = some ⟨ab, ao, none⟩ ∧ ab < w.heap.size ∧ W.cell? ⟨ab, ao + k * 4, none⟩ = some (I (x.lo k)) ∧ W.cell? ⟨ab, ao + k * 4 + 1, none⟩ = some (I (x.hi k)) ∧ W.cell? ⟨ab, ao + k * 4 + 2, none⟩ = some (I (x.ho k)) ∧ W.cell? ⟨ab, ao + k * 4 + 3, none⟩ = some (I (x.ne k))) := Lib.hid fun W hW k hk => by
    obtain ⟨ab, ao, hAe, haz, hac⟩ := (HA.out.below hW) (by omega)
    obtain ⟨a0, a1, a2, a3⟩ := hac k hk
    obtain ⟨e0, e1, e2, e3⟩ := HLO.out k hk
    rw [e0] at a0
    rw [e1] at a1
    rw [e2] at a2
    rw [e3] at a3
    exact ⟨ab, ao, hAe, haz, a0, a1, a2, a3⟩
  have hsz : (w.alloc (.cells #[.slice A x.sp.length c, I al, I ah] 26)).heap.size = w.heap.size + 1 := by simp
  go_enter Try.func22, Try.ntmps22
  go_wp2_with (fail)
  generalize hwz0 : w.alloc (.cells #[.slice A x.sp.length c, I al, I ah] 26) = wa at *
  clear hwz0
  go_loopw [5, 6, 7, 8] (fun s5 s6 s7 s8 wr => ∃ (k : Nat) (v5 : Value), k ≤ x.sp.length ∧ s8 = I k ∧ s6 = I (sumN x.lo k) ∧ s7 = I (sumN x.hi k) ∧ v5 = s5 ∧ Below (w.heap.size + 1) wa wr ∧ Hid (wr.ownsRow (w.heap.size + 1) 3 1 v5 k ((loL x k).map I))) (fun _ _ _ s _ => x.sp.length - (intOf s).toNat)
  case atStart => exact ⟨0, _, by omega, rfl, by simp [sumN], by simp [sumN], rfl, (by first | exact Below.refl _ _ | exact below_drewN (Below.refl _ _) _), Lib.hid (by simpa [loL] using World.ownsRow_nil _ (w.heap.size + 1) 3 1)⟩
  case round =>
    obtain ⟨k, v5, hk, rfl, rfl, rfl, rfl, hB, HO⟩ := hrel
    have hzr := hB.size
    obtain ⟨c0, c1, c2, hBw⟩ := HCP.out _ hB
    obtain ⟨hsl, hsh⟩ := HSL.out k hk
    by_cases hlt : k < x.sp.length
    · obtain ⟨ab, ao, hAe, haz, a0, a1, _⟩ := HIB.out _ hBw k hlt
      subst hAe
      obtain ⟨hsl1, hsh1⟩ := HSL.out (k + 1) hlt
      have HSK := Lib.hid (HSS.out k).1
      have HSH := Lib.hid (HSS.out k).2
      have HN : Hid ((loL x (k + 1)).map I = (loL x k).map I ++ [I (x.lo k)]) := Lib.hid (by rw [loL_succ]; simp)
      have p0 : (0 : Int) ≤ (k : Int) := by omega
      have p1 : (k : Int) < (x.sp.length : Int) := by omega
      have hB2 : Below (w.heap.size + 1) wa (wr.alloc (.cells #[I (x.lo k)] 3)) := hB.alloc (by omega) _
      have HO2 := Lib.hid (HO.out.alloc (.cells #[I (x.lo k)] 3))
      have HC2 := Lib.hid (cell_one3 wr (I (x.lo k)) 3)
      rw [HSK.out] at hsl1
      rw [HSH.out] at hsh1
      have habz : ab < w.heap.size + 1 := by omega
      have hpl := HX.out.peo k hlt
      have hpl0 : 0 ≤ x.lo k := hpl.1
      have hpl1 : x.lo k ≤ x.hi k := hpl.2.1
      have hpl2 : x.hi k ≤ 1048576 := hpl.2.2
      have HA1 : Hid (∀ W, Below (w.heap.size + 1) wa W → W.cell? ⟨ab, ao + k * 4 + 1, none⟩ = some (I (x.hi k)) ∧ W.cell? ⟨w.heap.size, 0, none⟩ = some (.slice (some ⟨ab, ao, none⟩) x.sp.length c)) := Lib.hid fun W hW => by
        obtain ⟨e0, _, _, eb⟩ := HCP.out W hW
        obtain ⟨ab', ao', hAe', _, _, e1, _⟩ := HIB.out W eb k hlt
        injection hAe' with hAe'
        injection hAe' with h1 h2 _
        subst h1 h2
        exact ⟨e1, e0⟩
      clear hpl
      generalize x.lo k = v at *
      generalize x.hi k = h at *
      generalize sumN x.lo k = s at *
      generalize sumN x.hi k = t at *
      go_wp2_with (first
        | (at_builtin; refine wpList_append_own _ rfl _ _ 27 rfl (w.heap.size + 1) 3 i0 (.int .i64 0) 1 8 HU.out HI0.out HI1.out HI2.out HI3.out rfl (by decide) _ _ _ rfl HO2.out ⟨wr.heap.size, 0, none⟩ 1 1 [I v] rfl rfl HC2.out (by simp [Value.oneCell']) (by unfold maxLen; omega) (by omega) (by simp; omega) ?_; intro v' w2 hown' hgrow _; have HO1 : Hid (w2.ownsRow (w.heap.size + 1) 3 1 v' (k + 1) ((loL x (k + 1)).map I)) := Lib.hid (by rw [HN.out]; exact hown'); have hB3 : Below (w.heap.size + 1) wa w2 := hB2.grown hgrow (by have := hB2.size; omega) (fun g e => (HO.out.lt g e).1); obtain ⟨b1, b0⟩ := HA1.out _ hB3; clear hown' hgrow; (obtain ⟨g, cap, hg, hgb, hgz, hgc, hgm⟩ : ∃ g cap, v' = .slice (some ⟨g, 0, none⟩) (k + 1) cap ∧ w.heap.size + 1 ≤ g ∧ g < w2.heap.size ∧ k + 1 ≤ cap ∧ cap ≤ 9223372036854775807 := (by rcases own_form HO1.out with ⟨_, h⟩ | h; exact absurd h (by omega); exact h)); subst hg; have r0 : w2.cell? ⟨g, k, none⟩ = some (I v) := (by rw [HO1.out.cellAt k (by omega), HN.out, List.getElem?_append_right (by simp [loL_len])]; simp [loL_len]))
        | fail)
      go_roundw
      case rel => first | exact ⟨k + 1, _, by omega, by go_num, by rw [HSK.out], by rw [HSH.out], rfl, hB3, HO1⟩ | ((repeat apply Exists.intro); refine ⟨?_, rfl⟩; exact ⟨k + 1, _, by omega, by go_num, by rw [HSK.out], by rw [HSH.out], rfl, hB3, HO1⟩)
      case measure => first | (simp [intOf]; done) | (simp [intOf]; omega)
    · obtain rfl : k = x.sp.length := by omega
      obtain ⟨gA, gc, rfl⟩ : ∃ gA gc, v5 = .slice gA x.sp.length gc := by
        rcases own_form HO.out with ⟨h1, h2⟩ | ⟨g, cap, h1, _⟩
        · exact ⟨none, 0, by rw [h1, h2]⟩
        · exact ⟨_, _, h1⟩
      have HGF : Hid (0 < x.sp.length → ∃ g, gA = some ⟨g, 0, none⟩ ∧ w.heap.size + 1 ≤ g ∧ g < wr.heap.size) := Lib.hid fun h0 => by
        rcases own_form HO.out with ⟨_, h⟩ | ⟨g, cap, h1, h2, h3, _⟩
        · omega
        · injection h1 with h4 _ _
          exact ⟨g, h4, h2, h3⟩
      have y0c := HYW.out _ hBw 0 hy0
      have hyr := HYB.out ys[0] (List.getElem_mem hy0)
      have HYWr : Hid (∀ W, Below w.heap.size w W → W.cell? ⟨yb, yo, none⟩ = some (.int .u32 ys[0])) := Lib.hid fun W hW => HYW.out W hW 0 hy0
      have HT := Lib.hid (HTOT.out ys[0] hyr.1)
      have HSTB : Hid (∀ (mo : Int) (r : Nat), 0 ≤ mo → ∃ cl : List Int, cl.length = x.sp.length ∧ cl = loL x x.sp.length ∧ TurnI x (sumN x.lo x.sp.length + mo) r 0 cl mo) := Lib.hid fun mo r h => ⟨_, loL_len x _, rfl, HSTA.out _ mo r rfl h⟩
      have HT2 : Hid (∀ dl mo (r : Nat) (tot : Int), al ≤ tot → tot ≤ ah → tot ≤ sumN x.hi x.sp.length → TurnI x tot r (2 * x.sp.length) dl mo → Possible x (crF dl)) := Lib.hid fun dl mo r tot h1 h2 h3 h => h.done (by rw [HAL.out]; exact h1) (by rw [HAH.out]; exact h2) h3
      have ht := HT.out
      simp only [show x.n = x.sp.length from rfl, HAL.out, HAH.out] at ht
      clear HTOT HT HSTA
      generalize ys[0] = y at *
      generalize sumN x.lo x.sp.length = sl at *
      generalize sumN x.hi x.sp.length = sh at *
      obtain ⟨lw, hlw⟩ : ∃ lw, max 0 (al - sl) = lw := ⟨_, rfl⟩
      obtain ⟨m1, hm1⟩ : ∃ m1, min ah sh = m1 := ⟨_, rfl⟩
      rw [hlw, hm1] at ht
      obtain ⟨e1, he1⟩ : ∃ e1, m1 - sl = e1 := ⟨_, rfl⟩
      rw [he1] at ht
      obtain ⟨e2, he2⟩ : ∃ e2, e1 - lw = e2 := ⟨_, rfl⟩
      rw [he2] at ht
      obtain ⟨dd, hdd⟩ : ∃ dd, e2 + 1 = dd := ⟨_, rfl⟩
      rw [hdd] at ht
      obtain ⟨q, hq⟩ : ∃ q, y % dd = q := ⟨_, rfl⟩
      rw [hq] at ht
      obtain ⟨mo0, hmo0⟩ : ∃ mo0, lw + q = mo0 := ⟨_, rfl⟩
      rw [hmo0] at ht
      obtain ⟨hdp, ht0, ht1, ht2, ht3⟩ := ht
      have hlw0 : 0 ≤ lw ∧ lw ≤ 6291456 := by omega
      have hw1 : IntKind.i64.wrap e1 = e1 := IntWalk.i64_in _ (by omega)
      have hw2 : IntKind.i64.wrap e2 = e2 := IntWalk.i64_in _ (by omega)
      have hw3 : IntKind.i64.wrap dd = dd := IntWalk.i64_in _ (by omega)
      have hw4 : IntKind.i64.wrap mo0 = mo0 := IntWalk.i64_in _ (by omega)
      have hq0 : 0 ≤ q ∧ q < dd := ⟨by rw [← hq]; exact Int.emod_nonneg _ (by omega), by rw [← hq]; exact Int.emod_lt_of_pos _ hdp⟩
      have hwy : IntKind.i64.wrap y = y := IntWalk.i64_in _ (by omega)
      have hd0 : ¬ dd = 0 := by omega
      have htm : y.tmod dd = q := by rw [Int.tmod_eq_emod_of_nonneg hyr.1]; exact hq
      have hz0 := y0c
      simp only [Nat.add_zero] at hz0
      clear y0c
      go_wp2_with (fail)
      refine (wpIn_wide (n := 9)).1 ?_
      refine wpIn_region_valsB [some 52, some 53, some 54, some 55, some 56, some 57, some 58, some 59, some 60, some 61, some 62, some 63, some 64, some 65, some 66, some 67, some 68, some 10]
        (nthV [I lw, .slice (some ⟨yb, yo, none⟩) ys.length d, .pointer (some ⟨yb, yo, none⟩), .int .u32 y, I y, .pointer (some ⟨w.heap.size, 1, none⟩), .pointer (some ⟨w.heap.size, 2, none⟩), I ah, I sh, I m1, I sl, I e1, I lw, I e2, I dd, I q, I mo0, I mo0])
        [(9, I lw), (1, .slice (some ⟨yb, yo, none⟩) ys.length d), (2, .pointer (some ⟨w.heap.size, 0, none⟩)), (7, I sh), (6, I sl)]
        (fun W => W = wr.drew) rfl (by kernel_rfl) (fun _ => trivial) (by kernel_rfl) (by kernel_rfl) (by kernel_rfl) ⟨rfl, rfl, rfl, rfl, rfl, trivial⟩ (fun _ d _ _ _ h => by cases d <;> exact h) rfl ?_ ?_
      · refine ⟨?_, ?_, ?_, ?_, ?_, ?_, ?_, ?_, ?_, ?_, ?_, ?_, ?_, ?_, ?_, ?_, ?_, ?_, trivial⟩
        all_goals (intro x0 W hC; have hCC := hC; subst hCC)
        all_goals first
          | (refine e_no rfl ?_; rfl)
          | (refine e_yes rfl ?_; intro b e hb K hK)
        all_goals first
          | (refine opE_li rfl hb ?_; simp only [execOp, resolve, Oper.about, envB, lookB, lookV, nthV, List.map_toArray, List.map_cons, List.map_nil, Nat.reduceEqDiff, reduceIte, Nat.succ_ne_zero, Nat.zero_ne_one, Nat.one_ne_zero, Nat.reduceAdd, Nat.zero_add]; go_simp; exact hK _ hC)
      · (intro W hC; have HC := Lib.hid hC; clear hC; simp only [putD, nthV, Act.put, List.setIfInBounds_toArray, List.set_cons_succ, List.set_cons_zero, Nat.zero_add, Nat.reduceAdd])
        have hCo := HC.out
        clear HC
        subst hCo
        clear hw1 hw2 hw3 hw4 hd0 htm hdd he2 he1 hq hm1 hlw
        obtain ⟨r, hr⟩ : ∃ r : Nat, y % 8 = (r : Int) := ⟨(y % 8).toNat, by omega⟩
        have hr8 : r < 8 := by omega
        obtain ⟨cl, hcl, hcle, hST⟩ := HSTB.out mo0 r ht0
        rw [← hcle] at HO
        have HTT := Lib.hid hST
        obtain ⟨tot, htot⟩ : ∃ tot, sl + mo0 = tot := ⟨_, rfl⟩
        rw [htot] at HTT ht1 ht2 ht3
        have HMB : Hid (∀ k dl mo, TurnI x tot r k dl mo → (0 ≤ mo ∧ mo ≤ 12582912) ∧ ∀ i, i < x.sp.length → (0 ≤ crF dl i ∧ crF dl i ≤ x.hi i) ∧ x.hi i ≤ 1048576) := Lib.hid fun k dl mo h => by
          obtain ⟨h1, h2⟩ := some_more HX.out h.s
          exact ⟨⟨h1.1, by omega⟩, h2⟩
        have hB1 : Below (w.heap.size + 1) wa wr.drew := Below.drew hB
        have HO1 : Hid (wr.drew.ownsRow (w.heap.size + 1) 3 1 (.slice gA x.sp.length gc) x.sp.length (cl.map I)) := HO
        have hz1 : wr.heap.size ≤ wr.drew.heap.size := Nat.le_refl _
        clear hST htot hB HO HSTB hz0 c0 c1 c2 hBw hcle
        generalize hw0 : wr = w0 at *
        clear hw0
        go_wp2_with (fail)
        go_loopw [10, 11] (fun s10 s11 wr => ∃ (k : Nat) (dl : List Int) (mo : Int), k ≤ 2 * x.sp.length ∧ dl.length = x.sp.length ∧ s11 = I k ∧ s10 = I mo ∧ Below (w.heap.size + 1) wa wr ∧ w0.heap.size ≤ wr.heap.size ∧ Hid (TurnI x tot r k dl mo) ∧ Hid (wr.ownsRow (w.heap.size + 1) 3 1 (.slice gA x.sp.length gc) x.sp.length (dl.map I))) (fun _ s _ => 2 * x.sp.length - (intOf s).toNat)
        case atStart => exact ⟨0, cl, mo0, by omega, hcl, rfl, rfl, (by first | exact hB1 | exact below_drewN hB1 _), hz1, HTT, (by first | exact HO1 | exact Lib.hid HO1.out)⟩
        case round =>
          clear HTT HO1 hB1 hz1 hcl
          obtain ⟨k, dl, mo, hk, hdl, rfl, rfl, hB, hz, HF, HO⟩ := hrel
          have hzr := hB.size
          obtain ⟨c0, c1, c2, hBw⟩ := HCP.out _ hB
          have p6 : (0 : Int) ≤ (k : Int) := by omega
          by_cases hlt : k < 2 * x.sp.length
          · have hnp : 0 < x.sp.length := by omega
            obtain ⟨g, hg, hgb, hgz⟩ := HGF.out hnp
            subst hg
            obtain ⟨i, hi⟩ : ∃ i, (k + r) % x.sp.length = i := ⟨_, rfl⟩
            have hil : i < x.sp.length := by rw [← hi]; exact Nat.mod_lt _ hnp
            have hii : ((k : Int) + (r : Int)) % (x.sp.length : Int) = (i : Int) := by rw [← hi]; simp
            obtain ⟨ab, ao, hAe, haz, a0, a1, a2, a3⟩ := HIB.out _ hBw i hil
            subst hAe
            obtain ⟨l0, f0⟩ := row_at HO.out hil hdl
            obtain ⟨hmo, hmb⟩ := HMB.out k dl mo HF.out
            obtain ⟨hv, hh⟩ := hmb i hil
            have HSTP : Hid (∀ m, 0 ≤ m → m ≤ min mo (x.hi i - crF dl i) → (k < x.sp.length ∨ m = min mo (x.hi i - crF dl i)) → TurnI x tot r (k + 1) (dl.set i (crF dl i + m)) (mo - m)) := Lib.hid fun m h0 h1 h2 => HF.out.step hdl hnp hi h0 h1 h2
            have HOS : Hid (∀ (n : Nat) m, ((wr.drewN n).drew.setCell ⟨g, i, none⟩ (I (crF dl i + m))).ownsRow (w.heap.size + 1) 3 1 (.slice (some ⟨g, 0, none⟩) x.sp.length gc) x.sp.length ((dl.set i (crF dl i + m)).map I)) := Lib.hid fun n m => row_set (W := (wr.drewN n).drew) HO.out i _
            have HLS : Hid (∀ m : Int, (dl.set i m).length = x.sp.length) := Lib.hid fun m => by rw [List.length_set]; exact hdl
            have hyk := HYWr.out _ hBw
            have HBB : Hid (∀ (n : Nat) (v : Value), Below (w.heap.size + 1) wa ((wr.drewN n).drew.setCell ⟨g, i, none⟩ v)) := Lib.hid fun n v => (Below.drew (below_drewN hB n)).setCell hgb _
            generalize x.lo i = lo at *
            generalize x.hi i = h at *
            generalize x.ho i = ho at *
            generalize x.ne i = ne at *
            generalize crF dl i = v at *
            have p0 : (0 : Int) ≤ (i : Int) := by omega
            have p1 : (i : Int) < (x.sp.length : Int) := by omega
            have p2 : (0 : Int) < (x.sp.length : Int) := by omega
            have p3 : (x.sp.length : Int) ≤ 6 := by omega
            have p4 : (k : Int) < 2 * (x.sp.length : Int) := by omega
            have p5 : (0 : Int) ≤ (r : Int) ∧ (r : Int) < 8 := by omega
            obtain ⟨d1, hd1⟩ : ∃ d1, h - v = d1 := ⟨_, rfl⟩
            obtain ⟨q1, hq1⟩ : ∃ q1, min mo d1 = q1 := ⟨_, rfl⟩
            rw [hd1, hq1] at HSTP
            have hq2 : 0 ≤ q1 ∧ q1 ≤ 1048576 := by omega
            have hwd : IntKind.i64.wrap d1 = d1 := IntWalk.i64_in _ (by omega)
            clear hdl hi
            go_wp2_with (fail)
            go_quiet (fail)
            go_wp2_with (fail)
            rw [hii]
            refine (wpIn_wide (n := 9)).1 ?_
            refine wpIn_region_valsB [some 88, some 89, some 90, some 91, some 92, some 93, some 94, some 95, some 96, some 97, some 98, some 99, some 100, some 101, some 13]
              (nthV [I mo, .pointer (some ⟨w.heap.size, 0, none⟩), .slice (some ⟨ab, ao, none⟩) x.sp.length c, I i, .pointer (some ⟨ab, ao + i * 4, none⟩), .pointer (some ⟨ab, ao + i * 4, none⟩), .pointer (some ⟨ab, ao + i * 4 + 1, none⟩), I h, .slice (some ⟨g, 0, none⟩) x.sp.length gc, I i, .pointer (some ⟨g, i, none⟩), I v, I d1, I q1, I q1])
              [(10, I mo), (2, .pointer (some ⟨w.heap.size, 0, none⟩)), (12, I i), (5, .slice (some ⟨g, 0, none⟩) x.sp.length gc)]
              (fun W => W = (wr.drewN nq).drew) rfl (by kernel_rfl) (fun _ => trivial) (by kernel_rfl) (by kernel_rfl) (by kernel_rfl) ⟨rfl, rfl, rfl, rfl, trivial⟩ (fun _ d _ _ _ h => by cases d <;> exact h) rfl ?_ ?_
            · refine ⟨?_, ?_, ?_, ?_, ?_, ?_, ?_, ?_, ?_, ?_, ?_, ?_, ?_, ?_, ?_, trivial⟩
              all_goals (intro x0 W hC; have hCC := hC; subst hCC)
              all_goals first
                | (refine e_no rfl ?_; rfl)
                | (refine e_yes rfl ?_; intro b e hb K hK)
              all_goals first
                | (refine opE_li rfl hb ?_; simp only [execOp, resolve, Oper.about, envB, lookB, lookV, nthV, List.map_toArray, List.map_cons, List.map_nil, Nat.reduceEqDiff, reduceIte, Nat.succ_ne_zero, Nat.zero_ne_one, Nat.one_ne_zero, Nat.reduceAdd, Nat.zero_add]; go_simp; exact hK _ hC)
            · (intro W hC; have HC := Lib.hid hC; clear hC; simp only [putD, nthV, Act.put, List.setIfInBounds_toArray, List.set_cons_succ, List.set_cons_zero, Nat.zero_add, Nat.reduceAdd])
              have hCo := HC.out
              clear HC
              subst hCo
              by_cases hkn : k < x.sp.length
              · obtain ⟨j, hj⟩ : ∃ j : Nat, (k : Int) % (ys.length : Int) = (j : Int) := ⟨((k : Int) % (ys.length : Int)).toNat, by have := Int.emod_nonneg (k : Int) (show (ys.length : Int) ≠ 0 by omega); omega⟩
                have hjl : j < ys.length := by have := Int.emod_lt_of_pos (k : Int) (show (0 : Int) < (ys.length : Int) by omega); omega
                have hyj := HYW.out _ hBw j hjl
                have hyv := HYB.out ys[j] (List.getElem_mem hjl)
                generalize ys[j] = yv at *
                obtain ⟨m, hm⟩ : ∃ m, yv % (q1 + 1) = m := ⟨_, rfl⟩
                have hm0 : 0 ≤ m ∧ m ≤ q1 := ⟨by rw [← hm]; exact Int.emod_nonneg _ (by omega), by have := Int.emod_lt_of_pos yv (show 0 < q1 + 1 by omega); rw [hm] at this; omega⟩
                have HF2 := Lib.hid (HSTP.out m hm0.1 hm0.2 (.inl hkn))
                have HO2 := Lib.hid (HOS.out nq m)
                have HL2 := Lib.hid (HLS.out (v + m))
                have p7 : (0 : Int) ≤ (j : Int) := by omega
                have p8 : (j : Int) < (ys.length : Int) := by omega
                have p9 : (0 : Int) < (ys.length : Int) := by omega
                have p10 : (0 : Int) < q1 + 1 := by omega
                clear HSTP HOS HLS HF HO
                generalize dl.set i (v + m) = dl2 at *
                go_wp2_with (fail)
                go_roundw
                case rel => first | exact ⟨k + 1, dl2, mo - m, by omega, HL2.out, by go_num, rfl, HBB.out _ _, by simp; omega, HF2, HO2⟩ | ((repeat apply Exists.intro); refine ⟨?_, rfl⟩; exact ⟨k + 1, dl2, mo - m, by omega, HL2.out, by go_num, rfl, HBB.out _ _, by simp; omega, HF2, HO2⟩)
                case measure => first | (simp [intOf]; done) | (simp [intOf]; omega)
              · have HF2 := Lib.hid (HSTP.out q1 hq2.1 (Int.le_refl _) (.inr rfl))
                have HO2 := Lib.hid (HOS.out nq q1)
                have HL2 := Lib.hid (HLS.out (v + q1))
                clear HSTP HOS HLS HF HO
                generalize dl.set i (v + q1) = dl2 at *
                go_wp2_with (fail)
                go_roundw
                case rel => first | exact ⟨k + 1, dl2, mo - q1, by omega, HL2.out, by go_num, rfl, HBB.out _ _, by simp; omega, HF2, HO2⟩ | ((repeat apply Exists.intro); refine ⟨?_, rfl⟩; exact ⟨k + 1, dl2, mo - q1, by omega, HL2.out, by go_num, rfl, HBB.out _ _, by simp; omega, HF2, HO2⟩)
                case measure => first | (simp [intOf]; done) | (simp [intOf]; omega)
          · obtain rfl : k = 2 * x.sp.length := by omega
            have HE := Lib.hid (HT2.out dl mo r tot ht1 ht2 ht3 HF.out)
            have HIN := Lib.hid (ints_of_own HO.out hdl.symm)
            have p7 : ((2 * x.sp.length : Nat) : Int) = 2 * (x.sp.length : Int) := by omega
            have HDL := Lib.hid hdl
            clear HF HO hdl
            go_wp2_with (fail)
            refine bodyPost_ret (v := .slice gA x.sp.length gc) (by simp [results, Try.results22, go_sem]) rfl ⟨gA, gc, dl, rfl, HIN.out, HDL.out, HE.out, hBw⟩
end Go.Proofs.Ytfebhofihioaoaa
