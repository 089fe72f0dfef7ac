/- Law 7, the walk where the link is one of the watch. -/
import Derived.Test.YtijgfdncocjncaaG11
namespace Go.Proofs.Ytijgfdncocjncaa
set_option linter.unusedVariables false
set_option linter.unusedSimpArgs false
open Go Go.RowKit

theorem long_in64 {x : Wat} {s : Nat} {e2 : Int} (h : ∀ k (h : k < x.er.length), In64 x.er[k].1 ∧ In64 x.er[k].2) (h1 : (s : Int) ≤ 1000) (h2 : 0 ≤ e2 ∧ e2 ≤ 100000000) {k : Nat} (hk : k < (x.er ++ [((s : Int), e2)]).length) : In64 (x.er ++ [((s : Int), e2)])[k].1 ∧ In64 (x.er ++ [((s : Int), e2)])[k].2 := by
  by_cases e : k < x.er.length
  · rw [List.getElem_append_left e]
    exact h k e
  · obtain rfl : k = x.er.length := by simp at hk; omega
    rw [List.getElem_append_right (Nat.le_refl _)]
    simp only [Nat.sub_self, List.getElem_cons_zero]
    unfold In64
    exact ⟨by omega, by omega⟩
theorem cells_grown2 {W W' : World} {g : Nat} {xs : List Value} {row : Option Nat} (hg : W.grownBy W' row) (hne : some g ≠ row) (h : ∀ j u, xs[j]? = some u → W.cell? ((⟨g, 0, none⟩ : Addr).add j) = some u) : ∀ j u, xs[j]? = some u → W'.cell? ((⟨g, 0, none⟩ : Addr).add j) = some u := fun j u hj => by
  have h1 := h j u hj
  rw [Addr.add_lit] at h1 ⊢
  exact hg.cell h1 hne
set_option maxRecDepth 100000 in
set_option maxHeartbeats 8000000 in
theorem any7_ok (x : Wat) (A B : Option Addr) (c d : Nat) (f t : Nat) (wh by_ : Nat) (w : World) (h64 : Wat64 x) (hW : WatAt w x A B) (hwh : wh < 256) (hby : by_ < 256) (hlg : lrgB x 40 = false) (hwb : watB x = true) (hf : f < x.hb.length) (ht : t < x.hb.length) (hft : f ≠ t) :
    Calls Try.prog 7 #[x.val A c B d, .agg #[I f, I t], .int .u8 wh, .int .u8 by_] w fun e w' => e = .returned (.bool true) ∧ Below w.heap.size w w' := by
  have hx := watB_iff.1 hwb
  have HWA : Hid (∀ W, Below w.heap.size w W → WatAt W x A B) := Lib.hid fun W h => hW.below h
  have H8 : Hid (∀ W, Calls Try.prog 8 #[x.val A c B d, I 40] W fun e w' => e = .returned (.bool false) ∧ Below W.heap.size W w') := Lib.hid fun W => by have h := large8b x A B c d 40 W h64; rw [hlg] at h; exact h
  have hm64 : x.er.length ≤ 64 := hx.m64
  have hn6 : x.hb.length ≤ 6 := hx.n6
  have hen := hx.en
  obtain ⟨z1, hz1⟩ : ∃ z1, optI (ref x f t) = z1 := ⟨_, rfl⟩
  have hb1 : (ref x f t).isNone = (z1 == -1) := by
    rw [← hz1]
    cases hr : ref x f t with
    | none => rfl
    | some a =>
      have : ((a : Int) == -1) = false := beq_eq_false_iff_ne.2 (by omega)
      exact this.symm
  have hh : hldR x f t = (z1 == -1, z1, 0) := by
    unfold hldR
    rw [hwb, if_pos rfl, if_pos (by unfold inB; have : x.n = x.hb.length := rfl; simp; omega)]
    rw [Int.toNat_natCast, Int.toNat_natCast, hb1, hz1]
  have HREF : Hid ((z1 == -1) = false → ∃ a : Nat, z1 = (a : Int) ∧ a < x.er.length ∧ ref x f t = some a) := Lib.hid fun h0 => by
    cases hr : ref x f t with
    | none => rw [hr] at hz1; rw [← hz1] at h0; cases h0
    | some a => rw [hr] at hz1; exact ⟨a, hz1.symm, (ref_iff.1 hr).1, rfl⟩
  have hcase : z1 = -1 ∨ (0 ≤ z1 ∧ z1 < x.er.length) := by
    cases hr : ref x f t with
    | none => rw [hr] at hz1; exact .inl hz1.symm
    | some a =>
      rw [hr] at hz1
      have h1 := (ref_iff.1 hr).1
      have h2 : z1 = (a : Int) := hz1.symm
      have h3 : x.m = x.er.length := rfl
      exact .inr (by omega)
  have g2 : decide (z1 < -1) = false := decide_eq_false (by omega)
  have g3 : decide ((x.er.length : Int) ≤ z1) = false := decide_eq_false (by omega)
  have H20 : Hid (∀ W, WatAt W x A B → Calls Try.prog 20 #[x.val A c B d] W fun e w' => e = .returned (.bool true) ∧ Below W.heap.size W w') := Lib.hid fun W h => by have h := watch20 x A B c d W h64 h; rw [hwb] at h; exact h
  have H24 : Hid (∀ W, Calls Try.prog 24 #[x.val A c B d, .agg #[I f, I t]] W fun e w' => e = .returned (.bool true) ∧ Below W.heap.size W w') := Lib.hid fun W => by
    have h := of24 x A B c d f t W (by omega)
    have e : (inB (f : Int) 0 ((x.n : Int) - 1) && inB (t : Int) 0 ((x.n : Int) - 1) && !((f : Int) == (t : Int))) = true := by
      unfold inB
      have : x.n = x.hb.length := rfl
      simp
      omega
    rw [e] at h
    exact h
  have H25 : Hid (∀ W, WatAt W x A B → Calls Try.prog 25 #[x.val A c B d, .agg #[I f, I t]] W fun e w' => e = .returned (.bool (z1 == -1)) ∧ Below W.heap.size W w') := Lib.hid fun W h => by have h := holds25 x A B c d f t W hx h ht; rw [hb1] at h; exact h
  obtain ⟨fs, z3, hfs⟩ : ∃ fs z3, fewR x = (fs, z3) := ⟨_, _, rfl⟩
  obtain ⟨ls, hls⟩ : ∃ ls, lckR x = (ls, 0) := ⟨_, lckR_of hwb⟩
  have hll : ls.length ≤ 64 := by
    have h := lckI_len x x.m
    have e := lckR_of hwb
    rw [hls] at e
    have e2 : ls = lckI x x.m := congrArg Prod.fst e
    rw [← e2] at h
    exact Nat.le_trans h hx.m64
  have hfl : fs.length ≤ 36 := by
    have h := fewR_m36 x
    rw [hfs] at h
    exact h
  have HWID : Hid (∀ lo hi : Int, (lo ≤ hi → 0 ≤ lo ∧ hi ≤ 1048576) → (x.ol (wh % x.hb.length) ≤ x.oh (wh % x.hb.length) → lo ≤ x.ol (wh % x.hb.length) ∧ x.oh (wh % x.hb.length) ≤ hi) → ∃ fs2 z4 ls2, fewR (wideW x (wh % x.hb.length) lo hi) = (fs2, z4) ∧ lckR (wideW x (wh % x.hb.length) lo hi) = (ls2, 0) ∧ (z3 = 0 → z4 = 0 ∧ fs2.length ≤ fs.length) ∧ ls2.length ≤ ls.length ∧ ∀ p, p ∈ ls2 → p ∈ ls) := Lib.hid fun lo hi h1 h2 => by
    have h := wide_all hwb (k := wh % x.hb.length) (lo := lo) (hi := hi) (Nat.mod_lt _ (by omega)) h1 h2
    rw [hfs, hls] at h
    exact h
  have H15 : Hid (∀ W, WatAt W x A B → Calls Try.prog 15 #[x.val A c B d] W fun e w' => ∃ A' c', e = .returned (.tuple #[.slice A' fs.length c', I z3]) ∧ Twos w' w'.heap.size A' fs ∧ Below W.heap.size W w') := Lib.hid fun W h => by have := fewest15 x A B c d W h64 h; rw [hfs] at this; exact this
  have H12 : Hid (∀ W, WatAt W x A B → Calls Try.prog 12 #[x.val A c B d] W fun e w' => ∃ A' c', e = .returned (.tuple #[.slice A' ls.length c', I 0]) ∧ Ints w' w'.heap.size A' ls ∧ Below W.heap.size W w') := Lib.hid fun W h => by have := lacking12 x A B c d W h64 h; rw [hls] at this; exact this
  have H10 : Hid (∀ W, WatAt W x A B → Calls Try.prog 10 #[x.val A c B d, .agg #[I f, I t]] W fun e w' => e = .returned (.tuple #[.bool (z1 == -1), I z1, I 0]) ∧ Below W.heap.size W w') := Lib.hid fun W h => by have := holds10 x A B c d f t W h64 h; rw [hh] at this; exact this
  have HXX := Lib.hid hx
  clear hh hcase hb1 hz1 hW hfs hls
  have H9 := Lib.hid awake9
  have hv : x.val A c B d = .agg #[.slice A x.hb.length c, .slice B x.er.length d, I x.en] := rfl
  rw [hv] at H8 H10 H20 H24 H25 H15 H12 ⊢
  clear hv
  have HX0 : Hid (Box ((w.alloc (.cells #[.slice A x.hb.length c, .slice B x.er.length d, I x.en] 25)).alloc (.cells #[I f, I t] 27)) w.heap.size [.slice A x.hb.length c, .slice B x.er.length d, I x.en]) := Lib.hid ((Box.new w [.slice A x.hb.length c, .slice B x.er.length d, I x.en] 25).alloc _)
  have HL0 : Hid (Box ((w.alloc (.cells #[.slice A x.hb.length c, .slice B x.er.length d, I x.en] 25)).alloc (.cells #[I f, I t] 27)) (w.heap.size + 1) [I f, I t]) := Lib.hid (by have := Box.new (w.alloc (.cells #[.slice A x.hb.length c, .slice B x.er.length d, I x.en] 25)) [I f, I t] 27; rw [World.size_alloc] at this; exact this)
  have HB0 : Hid (Below w.heap.size w ((w.alloc (.cells #[.slice A x.hb.length c, .slice B x.er.length d, I x.en] 25)).alloc (.cells #[I f, I t] 27))) := Lib.hid (by (repeat' (first | assumption | exact Below.refl _ _ | refine Below.drew ?_ | refine below_drewN ?_ _ | refine Below.setCell ?_ (by first | omega | (simp; done) | (simp; omega)) _ | refine Below.alloc ?_ (by first | omega | (simp; done) | (simp; omega)) _ | refine Below.trans ?_ (Below.mono (by assumption) (by first | omega | (simp; done) | (simp; omega))))))
  have HZ0 : Hid (((w.alloc (.cells #[.slice A x.hb.length c, .slice B x.er.length d, I x.en] 25)).alloc (.cells #[I f, I t] 27)).heap.size = w.heap.size + 2) := Lib.hid (by simp)
  go_enter Try.func7, Try.ntmps7
  go_upto_region 1 with (fail)
  generalize ((w.alloc (.cells #[.slice A x.hb.length c, .slice B x.er.length d, I x.en] 25)).alloc (.cells #[I f, I t] 27)) = w0 at *
  have hz0 := HZ0.out
  have HCP : Hid (∀ W, Below (w.heap.size + 2) w0 W → W.cell? ⟨w.heap.size, 0, none⟩ = some (.slice A x.hb.length c) ∧ W.cell? ⟨w.heap.size, 1, none⟩ = some (.slice B x.er.length d) ∧ W.cell? ⟨w.heap.size, 2, none⟩ = some (I x.en) ∧ W.cell? ⟨w.heap.size + 1, 0, none⟩ = some (I f) ∧ W.cell? ⟨w.heap.size + 1, 1, none⟩ = some (I t) ∧ w.heap.size + 2 ≤ W.heap.size ∧ WatAt W x A B ∧ Below w.heap.size w W) := Lib.hid fun W hB => by
    have h1 := HX0.out.below hB (by omega)
    have h2 := HL0.out.below hB (by omega)
    have h3 := HB0.out.trans (hB.mono (by omega))
    exact ⟨(h1.at_ 0 _ rfl).1, (h1.at_ 1 _ rfl).1, (h1.at_ 2 _ rfl).1, (h2.at_ 0 _ rfl).1, (h2.at_ 1 _ rfl).1, by have := hB.size; omega, HWA.out W h3, h3⟩
  have HN : Hid (Below (w.heap.size + 2) w0 w0) := Lib.hid (Below.refl _ _)
  obtain ⟨m0, m1, m2, l0, l1, hzN, hWN, hBN⟩ := HCP.out _ HN.out
  clear HX0 HL0 HB0
  go_upto_region 9 with (first
    | (go_at_call 8; refine (H8.out _).mono ?_; rintro e w1 ⟨rfl, hB⟩; clear H8; replace HN := Lib.hid (HN.out.trans (hB.mono hzN)); clear m0 m1 m2 l0 l1 hzN hWN hBN; obtain ⟨m0, m1, m2, l0, l1, hzN, hWN, hBN⟩ := HCP.out _ HN.out; clear hB)
    | (go_at_call 10; refine (H10.out _ hWN).mono ?_; rintro e w1 ⟨rfl, hB⟩; clear H10; replace HN := Lib.hid (HN.out.trans (hB.mono hzN)); clear m0 m1 m2 l0 l1 hzN hWN hBN; obtain ⟨m0, m1, m2, l0, l1, hzN, hWN, hBN⟩ := HCP.out _ HN.out; clear hB)
    | (go_at_call 20; refine (H20.out _ hWN).mono ?_; rintro e w1 ⟨rfl, hB⟩; clear H20; replace HN := Lib.hid (HN.out.trans (hB.mono hzN)); clear m0 m1 m2 l0 l1 hzN hWN hBN; obtain ⟨m0, m1, m2, l0, l1, hzN, hWN, hBN⟩ := HCP.out _ HN.out; clear hB)
    | (go_at_call 24; refine (H24.out _).mono ?_; rintro e w1 ⟨rfl, hB⟩; clear H24; replace HN := Lib.hid (HN.out.trans (hB.mono hzN)); clear m0 m1 m2 l0 l1 hzN hWN hBN; obtain ⟨m0, m1, m2, l0, l1, hzN, hWN, hBN⟩ := HCP.out _ HN.out; clear hB)
    | (go_at_call 25; refine (H25.out _ hWN).mono ?_; rintro e w1 ⟨rfl, hB⟩; clear H25; replace HN := Lib.hid (HN.out.trans (hB.mono hzN)); clear m0 m1 m2 l0 l1 hzN hWN hBN; obtain ⟨m0, m1, m2, l0, l1, hzN, hWN, hBN⟩ := HCP.out _ HN.out; clear hB)
    | fail)
  obtain ⟨b1, hb1⟩ : ∃ b, (z1 == -1) = b := ⟨_, rfl⟩
  rw [hb1] at HREF ⊢
  clear hb1 g2 g3 HZ0
  go_wp2_with (fail)
  obtain ⟨wA, hwA⟩ : ∃ wA, w1.alloc (.cells #[.slice A x.hb.length c, .slice B x.er.length d, I x.en] 25) = wA := ⟨_, rfl⟩
  have HLA : Hid (Box wA w1.heap.size [.slice A x.hb.length c, .slice B x.er.length d, I x.en]) := Lib.hid (by rw [← hwA]; exact Box.new w1 _ 25)
  have HAN : Hid (Below (w.heap.size + 2) w0 wA) := Lib.hid (by rw [← hwA]; exact HN.out.alloc hzN _)
  have hzA : wA.heap.size = w1.heap.size + 1 := by rw [← hwA]; simp
  rw [hwA]
  obtain ⟨PL, hPL⟩ : ∃ PL, w1.heap.size = PL := ⟨_, rfl⟩
  rw [hPL] at HLA hzA hzN ⊢
  clear hwA hPL m0 m1 m2 l0 l1 hWN hBN
  obtain ⟨s, hs⟩ : ∃ s, wh % x.hb.length = s := ⟨_, rfl⟩
  have hsn : s < x.hb.length := by rw [← hs]; exact Nat.mod_lt _ (by omega)
  have hrem : ((wh : Int).tmod (x.hb.length : Int)) = (s : Int) := by rw [← hs]; rfl
  have hrem2 : (wh : Int) % (x.hb.length : Int) = (s : Int) := by rw [← hs]; rfl
  have hnz : ¬ (x.hb.length : Int) = 0 := by omega
  have hnil : ¬ x.hb = [] := by intro h; rw [h] at hf; simp at hf
  have hnzb : ((x.hb.length : Int) == 0) = false := by simpa using hnz
  have hcv1 : IntKind.i64.wrap (wh : Int) = (wh : Int) := IntWalk.i64_in _ (by omega)
  have hcv2 : IntKind.i64.wrap (by_ : Int) = (by_ : Int) := IntWalk.i64_in _ (by omega)
  have hcv3 : IntKind.i64.wrap (x.en + 1) = x.en + 1 := IntWalk.i64_in _ (by omega)
  have hcv4 : IntKind.i64.wrap (x.en + 1 + by_) = x.en + 1 + by_ := IntWalk.i64_in _ (by omega)
  have hcv5 : IntKind.i64.wrap (x.en + 1 + by_ + by_) = x.en + 1 + by_ + by_ := IntWalk.i64_in _ (by omega)
  have hcv6 : IntKind.i64.wrap (s : Int) = (s : Int) := IntWalk.i64_in _ (by omega)
  have HCA : Hid (∀ W, Below wA.heap.size wA W → W.cell? ⟨w.heap.size, 0, none⟩ = some (.slice A x.hb.length c) ∧ W.cell? ⟨w.heap.size, 1, none⟩ = some (.slice B x.er.length d) ∧ W.cell? ⟨w.heap.size, 2, none⟩ = some (I x.en)) := Lib.hid fun W hW => by
    obtain ⟨h0, h1, h2, _⟩ := HCP.out W (HAN.out.trans (hW.mono (by omega)))
    exact ⟨h0, h1, h2⟩
  refine (wpIn_wide (n := 9)).1 ?_
  refine wpIn_region_plan (Plan.ons [0, 1, 2, 3, 4, 5, 6, 7, 8, 9, 10, 11, 12] .fin) [0, 1, 2, 3, 4, 5, 6, 7, 8, 9, 10] (fun W => Below wA.heap.size wA W) [12] rfl (by kernel_rfl) (by kernel_rfl) (fun _ d _ _ _ h => by cases d <;> exact h) (Below.refl _ _).drew ?_
  (refine ordQ_held (.int .u8 wh) rfl rfl rfl rfl (fun W' hC' => ?_) (fun K hK => ?_); (focus (obtain _ := hC'; go_simp; try exact ⟨rfl, rfl⟩)); go_simp; refine hK _ ?_; clear hK K)
  (refine ordQ_held (I wh) rfl rfl rfl rfl (fun W' hC' => ?_) (fun K hK => ?_); (focus (obtain _ := hC'; go_simp; try exact ⟨rfl, rfl⟩)); go_simp; refine hK _ ?_; clear hK K)
  (refine ordQ_held (I x.hb.length) rfl rfl rfl rfl (fun W' hC' => ?_) (fun K hK => ?_); (focus (obtain _ := hC'; go_simp; try exact ⟨rfl, rfl⟩)); go_simp; refine hK _ ?_; clear hK K)
  (refine ordQ_held (I s) rfl rfl rfl rfl (fun W' hC' => ?_) (fun K hK => ?_); (focus (obtain _ := hC'; go_simp; try exact ⟨rfl, rfl⟩)); go_simp; refine hK _ ?_; clear hK K)
  (refine ordQ_held (.pointer (some ⟨w.heap.size, 2, none⟩)) rfl rfl rfl rfl (fun W' hC' => ?_) (fun K hK => ?_); (focus (obtain _ := hC'; go_simp; try exact ⟨rfl, rfl⟩)); go_simp; refine hK _ ?_; clear hK K)
  (refine ordQ_held (I x.en) rfl rfl rfl rfl (fun W' hC' => ?_) (fun K hK => ?_); (focus (obtain ⟨q0, q1, q2⟩ := HCA.out _ hC'; go_simp; try exact ⟨rfl, rfl⟩)); go_simp; refine hK _ ?_; clear hK K)
  (refine ordQ_held (I (x.en + 1)) rfl rfl rfl rfl (fun W' hC' => ?_) (fun K hK => ?_); (focus (obtain _ := hC'; go_simp; try exact ⟨rfl, rfl⟩)); go_simp; refine hK _ ?_; clear hK K)
  (refine ordQ_held (.int .u8 by_) rfl rfl rfl rfl (fun W' hC' => ?_) (fun K hK => ?_); (focus (obtain _ := hC'; go_simp; try exact ⟨rfl, rfl⟩)); go_simp; refine hK _ ?_; clear hK K)
  (refine ordQ_held (I by_) rfl rfl rfl rfl (fun W' hC' => ?_) (fun K hK => ?_); (focus (obtain _ := hC'; go_simp; try exact ⟨rfl, rfl⟩)); go_simp; refine hK _ ?_; clear hK K)
  (refine ordQ_held (I (x.en + 1 + by_)) rfl rfl rfl rfl (fun W' hC' => ?_) (fun K hK => ?_); (focus (obtain _ := hC'; go_simp; try exact ⟨rfl, rfl⟩)); go_simp; refine hK _ ?_; clear hK K)
  (refine ordQ_held (.agg #[I s, I (x.en + 1 + by_)]) rfl rfl rfl rfl (fun W' hC' => ?_) (fun K hK => ?_); (focus (obtain _ := hC'; go_simp; try exact ⟨rfl, rfl⟩)); go_simp; refine hK _ ?_; clear hK K)
  refine ordQ_hv rfl rfl rfl (fun K hK => ?_)
  gi_wp2
  have hBy : Below wA.heap.size wA (wA.alloc (.cells #[I 0, I 0] 50)).drew := (below1 wA _).drew
  refine hK _ _ (fun _ => hBy) ?_
  clear hK K
  have hY0 : Box (wA.alloc (.cells #[I 0, I 0] 50)).drew (PL + 1) [I 0, I 0] := by
    have h := Box.new wA [I 0, I 0] 50
    rw [hzA] at h
    exact h
  obtain ⟨y0, z0⟩ := hY0.at_ 0 _ rfl
  obtain ⟨y1, z1_⟩ := hY0.at_ 1 _ rfl
  refine ordQ_hv rfl rfl rfl (fun K hK => ?_)
  gi_wp2
  refine hK _ _ (fun h => by cases h) ?_
  clear hK K
  refine ordQ_fin ?_
  obtain ⟨wB, hwB⟩ : ∃ wB, (wA.alloc (.cells #[I s, I (x.en + 1 + by_)] 50)).drew = wB := ⟨_, rfl⟩
  have hBB : Below wA.heap.size wA wB := by rw [← hwB]; exact (below1 wA _).drew
  have hYB : Box wB (PL + 1) [I s, I (x.en + 1 + by_)] := by
    have h := Box.new wA [I s, I (x.en + 1 + by_)] 50
    rw [hzA] at h
    rw [← hwB]
    exact h
  have hLB := HLA.out.call hBB
  have hzB : wB.heap.size = PL + 2 := by rw [← hwB]; simp [hzA]
  have hNB : Below (w.heap.size + 2) w0 wB := HAN.out.trans (hBB.mono (by omega))
  rw [hwB]
  obtain ⟨y1, u1_⟩ := hYB.at_ 1 _ rfl
  obtain ⟨b2, v2_⟩ := hLB.at_ 2 _ rfl
  have hPN : w.heap.size + 2 ≤ PL := hzN
  clear hwB y0 z0 z1_ hY0
  go_wp2_with (fail)
  clear y1 u1_ b2 v2_
  obtain ⟨w2, hw2⟩ : ∃ w2, wB.setCell ⟨PL, 2, none⟩ (I (x.en + 1 + by_ + by_)) = w2 := ⟨_, rfl⟩
  have HN2 : Hid (Below (w.heap.size + 2) w0 w2) := Lib.hid (by rw [← hw2]; exact hNB.setCell (p := ⟨PL, 2, none⟩) hPN _)
  have HL2 : Hid (Box w2 PL [.slice A x.hb.length c, .slice B x.er.length d, I (x.en + 1 + by_ + by_)]) := Lib.hid (by rw [← hw2]; exact hLB.set 2 _)
  have HY2 : Hid (Box w2 (PL + 1) [I s, I (x.en + 1 + by_)]) := Lib.hid (by rw [← hw2]; exact hYB.far (p := ⟨PL, 2, none⟩) (by show PL ≠ PL + 1; omega) _)
  have hz2 : w2.heap.size = PL + 2 := by rw [← hw2]; simpa using hzB
  rw [hw2]
  clear hw2 hNB hLB hYB hBB hzB HLA HAN HCA hBy hcv1 hcv2 hcv3 hcv4 hcv5
  obtain ⟨p0, p1, p2, q0, q1, hzW, hW2, hBw2⟩ := HCP.out _ HN2.out
  have HW2 := Lib.hid hW2
  have HC2 : Hid (∀ W, Below w2.heap.size w2 W → W.cell? ⟨w.heap.size, 1, none⟩ = some (.slice B x.er.length d) ∧ W.cell? ⟨PL + 1, 0, none⟩ = some (I s) ∧ W.cell? ⟨PL + 1, 1, none⟩ = some (I (x.en + 1 + by_))) := Lib.hid fun W hW => ⟨(HCP.out W (HN2.out.trans (hW.mono (by omega)))).2.1, ((HY2.out.call hW).at_ 0 _ rfl).1, ((HY2.out.call hW).at_ 1 _ rfl).1⟩
  clear p0 p1 p2 q0 q1 hzW hW2
  obtain ⟨i0, hi0, hi1, hi2, hi3⟩ := info_parts info50
  go_cut [] (fun wx => ∃ (A36 : Option Addr) (c36 : Nat), Below (w.heap.size + 2) w0 wx ∧ Hid (Box wx PL [.slice A x.hb.length c, .slice A36 (x.er.length + 1) c36, I (x.en + 1 + by_ + by_)]) ∧ Hid (WatAt wx (longW x s (x.en + 1 + by_) (x.en + 1 + by_ + by_)) A A36))
  case first => as_aux_lemma =>
    refine (wpIn_wide (n := 9)).1 ?_
    refine wpIn_region_plan (Plan.ons [1, 2, 4] (.two 0 (.two 3 (.one 5 (Plan.ons [6, 7, 8] .fin)) 5 (.one 3 (Plan.ons [6, 7, 8] .fin))) 5 (.one 0 (.one 3 (Plan.ons [6, 7, 8] .fin))))) [1, 2, 4] (fun W => Below w2.heap.size w2 W) [8] rfl (by kernel_rfl) (by kernel_rfl) (fun _ d _ _ _ h => by cases d <;> exact h) (Below.refl _ _).drew ?_
    (refine ordQ_held (.pointer (some ⟨w.heap.size, 1, none⟩)) rfl rfl rfl rfl (fun W' hC' => ?_) (fun K hK => ?_); (focus (obtain _ := hC'; go_simp; try exact ⟨rfl, rfl⟩)); go_simp; refine hK _ ?_; clear hK K)
    (refine ordQ_held (.slice B x.er.length d) rfl rfl rfl rfl (fun W' hC' => ?_) (fun K hK => ?_); (focus (obtain ⟨q0, q1, q2⟩ := HC2.out _ hC'; go_simp; try exact ⟨rfl, rfl⟩)); go_simp; refine hK _ ?_; clear hK K)
    (refine ordQ_held (.agg #[I s, I (x.en + 1 + by_)]) rfl rfl rfl rfl (fun W' hC' => ?_) (fun K hK => ?_); (focus (obtain ⟨q0, q1, q2⟩ := HC2.out _ hC'; go_simp; try exact ⟨rfl, rfl⟩)); go_simp; refine hK _ ?_; clear hK K)
    refine ordQ_two rfl rfl rfl rfl (fun K hK => ?_) (fun K hK => ?_)
    · gi_wp2
      have hBa : Below w2.heap.size w2 (w2.alloc (.cells #[] 50)).drew := (below1 w2 _).drew
      have hra : ((w2.alloc (.cells #[] 50)).drew).ownsRow w2.heap.size 50 2 (.slice (some ⟨w2.heap.size, 0, none⟩) 0 0) 0 [] := (World.ownsRow_made w2 #[] 0 (Nat.le_refl _) (Nat.zero_le _) (by simp)).drew
      refine hK _ _ (fun _ => hBa) ?_
      clear hK K
      refine ordQ_two rfl rfl rfl rfl (fun K hK => ?_) (fun K hK => ?_)
      · refine opIn_append_any rfl _ _ _ 23 rfl w2.heap.size 50 i0 (.agg #[I 0, I 0]) 2 16 Try.underlying23 hi0 hi1 hi2 hi3 rfl (by decide) (.slice (some ⟨w2.heap.size, 0, none⟩) 0 0) 0 [] (by go_simp) hra B x.er.length d (flat2 x.er) (by go_simp) (by rw [flat2_len]) (flat2_src (HW2.out.er.below hBa)) (flat2_one _) (by unfold maxLen; omega) (by omega) (hBa).size ?_
        intro v30 w30 hown30 hg30
        have hB30 : Below w2.heap.size w2 w30 := hBa.grown hg30 hBa.size (fun g e => (hra.lt g e).1)
        have hw30 := hB30.size
        refine hK _ _ (fun _ => hB30) ?_
        clear hK K
        rw [Nat.zero_add, List.nil_append] at hown30
        refine ordQ_hv rfl rfl rfl (fun K hK => ?_)
        gi_wp2
        have HBX : Below w2.heap.size w2 (w30.alloc (.cells #[I s, I (x.en + 1 + by_)] 50)) := hB30.alloc hw30 _
        refine hK _ _ (fun _ => HBX) ?_
        clear hK K
        have H30 := hown30.alloc (.cells #[I s, I (x.en + 1 + by_)] 50)
        have H35 := cells_new w30 [I s, I (x.en + 1 + by_)] 50
        clear hown30 hg30 hB30 hra hBa
        have hz36 := HBX.size
        refine ordQ_hv rfl rfl rfl (fun K hK => ?_)
        refine opIn_append_own rfl _ _ _ 23 rfl w2.heap.size 50 i0 (.agg #[I 0, I 0]) 2 16 Try.underlying23 hi0 hi1 hi2 hi3 rfl (by decide) v30 x.er.length (flat2 x.er) (by go_simp) H30 ⟨w30.heap.size, 0, none⟩ 1 1 [I s, I (x.en + 1 + by_)] (by go_simp) rfl H35 (by simp [Value.oneCell']) (by unfold maxLen; omega) (by omega) hz36 ?_
        intro v36 w36 hown36 hg36 _
        have hB36 : Below w2.heap.size w2 w36 := HBX.grown hg36 hz36 (fun g e => (H30.lt g e).1)
        refine hK _ _ (fun _ => hB36) ?_
        clear hK K
        have hown37 : w36.ownsRow w2.heap.size 50 2 v36 (x.er.length + 1) (flat2 (x.er ++ [((s : Int), x.en + 1 + by_)])) := by rw [flat2_app]; exact hown36
        obtain ⟨A36, c36, hv36, hT36, _⟩ := twos_own hown37 (by simp)
        subst hv36
        have hL36 := HL2.out.call hB36
        obtain ⟨y1, u1_⟩ := hL36.at_ 1 _ rfl
        (refine ordQ_li rfl rfl rfl (fun K hK => ?_); go_simp; refine hK _ ?_; clear hK K)
        refine ordQ_hv rfl rfl rfl (fun K hK => ?_)
        gi_wp2
        refine hK _ _ (fun h => by cases h) ?_
        clear hK K
        refine ordQ_fin ?_
        have HF1 : Hid (Below (w.heap.size + 2) w0 (w36.setCell ⟨PL, 1, none⟩ (.slice A36 (x.er.length + 1) c36))) := Lib.hid ((HN2.out.trans (hB36.mono (by omega))).setCell (p := ⟨PL, 1, none⟩) hPN _)
        have HF2 : Hid (Box (w36.setCell ⟨PL, 1, none⟩ (.slice A36 (x.er.length + 1) c36)) PL [.slice A x.hb.length c, .slice A36 (x.er.length + 1) c36, I (x.en + 1 + by_ + by_)]) := Lib.hid (hL36.set 1 _)
        have HF3 : Hid (WatAt (w36.setCell ⟨PL, 1, none⟩ (.slice A36 (x.er.length + 1) c36)) (longW x s (x.en + 1 + by_) (x.en + 1 + by_ + by_)) A A36) := Lib.hid ⟨(fours_set (HW2.out.below hB36).hb y1 _).more (by simp), (twos_set hT36 y1 _).more (by simp)⟩
        clear hown36 hown37 hg36 H30 H35 HBX hB36 hT36 hL36 y1 u1_ hz36
        go_wp2_with (fail)
        go_meet
        exact ⟨A36, c36, HF1.out, HF2, HF3⟩
      · gi_wp2
        have hBb : Below w2.heap.size w2 ((w2.alloc (.cells #[] 50)).drew.alloc (.cells #[I s, I (x.en + 1 + by_)] 50)) := hBa.alloc hBa.size _
        refine hK _ _ (fun _ => hBb) ?_
        clear hK K
        have H35 : ∀ j u, [I s, I (x.en + 1 + by_)][j]? = some u → ((w2.alloc (.cells #[] 50)).drew.alloc (.cells #[I s, I (x.en + 1 + by_)] 50)).cell? ((⟨w2.heap.size + 1, 0, none⟩ : Addr).add j) = some u := by
          have h := cells_new (w2.alloc (.cells #[] 50)).drew [I s, I (x.en + 1 + by_)] 50
          rwa [show (w2.alloc (.cells #[] 50)).drew.heap.size = w2.heap.size + 1 by simp] at h
        have hrb := hra.alloc (.cells #[I s, I (x.en + 1 + by_)] 50)
        refine ordQ_hv rfl rfl rfl (fun K hK => ?_)
        refine opIn_append_any rfl _ _ _ 23 rfl w2.heap.size 50 i0 (.agg #[I 0, I 0]) 2 16 Try.underlying23 hi0 hi1 hi2 hi3 rfl (by decide) (.slice (some ⟨w2.heap.size, 0, none⟩) 0 0) 0 [] (by go_simp) hrb B x.er.length d (flat2 x.er) (by go_simp) (by rw [flat2_len]) (flat2_src (HW2.out.er.below hBb)) (flat2_one _) (by unfold maxLen; omega) (by omega) (hBb).size ?_
        intro v30 w30 hown30 hg30
        replace hg30 : ((w2.alloc (.cells #[] 50)).drew.alloc (.cells #[I s, I (x.en + 1 + by_)] 50)).grownBy w30 (some w2.heap.size) := hg30
        have HBX : Below w2.heap.size w2 w30 := hBb.grown hg30 hBb.size (fun g e => (hrb.lt g e).1)
        refine hK _ _ (fun _ => HBX) ?_
        clear hK K
        rw [Nat.zero_add, List.nil_append] at hown30
        have H30 := hown30
        replace H35 := cells_grown2 hg30 (by simp) H35
        clear hown30 hg30 hrb hra hBa hBb
        have hz36 := HBX.size
        refine ordQ_hv rfl rfl rfl (fun K hK => ?_)
        refine opIn_append_own rfl _ _ _ 23 rfl w2.heap.size 50 i0 (.agg #[I 0, I 0]) 2 16 Try.underlying23 hi0 hi1 hi2 hi3 rfl (by decide) v30 x.er.length (flat2 x.er) (by go_simp) H30 ⟨w2.heap.size + 1, 0, none⟩ 1 1 [I s, I (x.en + 1 + by_)] (by go_simp) rfl H35 (by simp [Value.oneCell']) (by unfold maxLen; omega) (by omega) hz36 ?_
        intro v36 w36 hown36 hg36 _
        have hB36 : Below w2.heap.size w2 w36 := HBX.grown hg36 hz36 (fun g e => (H30.lt g e).1)
        refine hK _ _ (fun _ => hB36) ?_
        clear hK K
        have hown37 : w36.ownsRow w2.heap.size 50 2 v36 (x.er.length + 1) (flat2 (x.er ++ [((s : Int), x.en + 1 + by_)])) := by rw [flat2_app]; exact hown36
        obtain ⟨A36, c36, hv36, hT36, _⟩ := twos_own hown37 (by simp)
        subst hv36
        have hL36 := HL2.out.call hB36
        obtain ⟨y1, u1_⟩ := hL36.at_ 1 _ rfl
        (refine ordQ_li rfl rfl rfl (fun K hK => ?_); go_simp; refine hK _ ?_; clear hK K)
        refine ordQ_hv rfl rfl rfl (fun K hK => ?_)
        gi_wp2
        refine hK _ _ (fun h => by cases h) ?_
        clear hK K
        refine ordQ_fin ?_
        have HF1 : Hid (Below (w.heap.size + 2) w0 (w36.setCell ⟨PL, 1, none⟩ (.slice A36 (x.er.length + 1) c36))) := Lib.hid ((HN2.out.trans (hB36.mono (by omega))).setCell (p := ⟨PL, 1, none⟩) hPN _)
        have HF2 : Hid (Box (w36.setCell ⟨PL, 1, none⟩ (.slice A36 (x.er.length + 1) c36)) PL [.slice A x.hb.length c, .slice A36 (x.er.length + 1) c36, I (x.en + 1 + by_ + by_)]) := Lib.hid (hL36.set 1 _)
        have HF3 : Hid (WatAt (w36.setCell ⟨PL, 1, none⟩ (.slice A36 (x.er.length + 1) c36)) (longW x s (x.en + 1 + by_) (x.en + 1 + by_ + by_)) A A36) := Lib.hid ⟨(fours_set (HW2.out.below hB36).hb y1 _).more (by simp), (twos_set hT36 y1 _).more (by simp)⟩
        clear hown36 hown37 hg36 H30 H35 HBX hB36 hT36 hL36 y1 u1_ hz36
        go_wp2_with (fail)
        go_meet
        exact ⟨A36, c36, HF1.out, HF2, HF3⟩
    · gi_wp2
      have hBa : Below w2.heap.size w2 (w2.alloc (.cells #[I s, I (x.en + 1 + by_)] 50)).drew := (below1 w2 _).drew
      refine hK _ _ (fun _ => hBa) ?_
      clear hK K
      have H35 : ∀ j u, [I s, I (x.en + 1 + by_)][j]? = some u → ((w2.alloc (.cells #[I s, I (x.en + 1 + by_)] 50)).drew).cell? ((⟨w2.heap.size, 0, none⟩ : Addr).add j) = some u := cells_new w2 [I s, I (x.en + 1 + by_)] 50
      refine ordQ_hv rfl rfl rfl (fun K hK => ?_)
      gi_wp2
      have hBb : Below w2.heap.size w2 ((w2.alloc (.cells #[I s, I (x.en + 1 + by_)] 50)).drew.alloc (.cells #[] 50)) := hBa.alloc hBa.size _
      have hrb : (((w2.alloc (.cells #[I s, I (x.en + 1 + by_)] 50)).drew).alloc (.cells #[] 50)).ownsRow w2.heap.size 50 2 (.slice (some ⟨w2.heap.size + 1, 0, none⟩) 0 0) 0 [] := by
        have h := World.ownsRow_made (base := w2.heap.size) (e := 50) (size := 2) (w2.alloc (.cells #[I s, I (x.en + 1 + by_)] 50)).drew #[] 0 hBa.size (Nat.zero_le _) (by simp)
        rwa [show (w2.alloc (.cells #[I s, I (x.en + 1 + by_)] 50)).drew.heap.size = w2.heap.size + 1 by simp] at h
      replace H35 := cells_grown2 (World.grownBy_alloc _ (.cells #[] 50) none) (by simp) H35
      refine hK _ _ (fun _ => hBb) ?_
      clear hK K
      refine ordQ_hv rfl rfl rfl (fun K hK => ?_)
      refine opIn_append_any rfl _ _ _ 23 rfl w2.heap.size 50 i0 (.agg #[I 0, I 0]) 2 16 Try.underlying23 hi0 hi1 hi2 hi3 rfl (by decide) (.slice (some ⟨w2.heap.size + 1, 0, none⟩) 0 0) 0 [] (by go_simp) hrb B x.er.length d (flat2 x.er) (by go_simp) (by rw [flat2_len]) (flat2_src (HW2.out.er.below hBb)) (flat2_one _) (by unfold maxLen; omega) (by omega) (hBb).size ?_
      intro v30 w30 hown30 hg30
      replace hg30 : ((w2.alloc (.cells #[I s, I (x.en + 1 + by_)] 50)).drew.alloc (.cells #[] 50)).grownBy w30 (some (w2.heap.size + 1)) := hg30
      have HBX : Below w2.heap.size w2 w30 := hBb.grown hg30 hBb.size (fun g e => (hrb.lt g e).1)
      refine hK _ _ (fun _ => HBX) ?_
      clear hK K
      rw [Nat.zero_add, List.nil_append] at hown30
      have H30 := hown30
      replace H35 := cells_grown2 hg30 (by simp) H35
      clear hown30 hg30 hrb hBa hBb
      have hz36 := HBX.size
      refine ordQ_hv rfl rfl rfl (fun K hK => ?_)
      refine opIn_append_own rfl _ _ _ 23 rfl w2.heap.size 50 i0 (.agg #[I 0, I 0]) 2 16 Try.underlying23 hi0 hi1 hi2 hi3 rfl (by decide) v30 x.er.length (flat2 x.er) (by go_simp) H30 ⟨w2.heap.size, 0, none⟩ 1 1 [I s, I (x.en + 1 + by_)] (by go_simp) rfl H35 (by simp [Value.oneCell']) (by unfold maxLen; omega) (by omega) hz36 ?_
      intro v36 w36 hown36 hg36 _
      have hB36 : Below w2.heap.size w2 w36 := HBX.grown hg36 hz36 (fun g e => (H30.lt g e).1)
      refine hK _ _ (fun _ => hB36) ?_
      clear hK K
      have hown37 : w36.ownsRow w2.heap.size 50 2 v36 (x.er.length + 1) (flat2 (x.er ++ [((s : Int), x.en + 1 + by_)])) := by rw [flat2_app]; exact hown36
      obtain ⟨A36, c36, hv36, hT36, _⟩ := twos_own hown37 (by simp)
      subst hv36
      have hL36 := HL2.out.call hB36
      obtain ⟨y1, u1_⟩ := hL36.at_ 1 _ rfl
      (refine ordQ_li rfl rfl rfl (fun K hK => ?_); go_simp; refine hK _ ?_; clear hK K)
      refine ordQ_hv rfl rfl rfl (fun K hK => ?_)
      gi_wp2
      refine hK _ _ (fun h => by cases h) ?_
      clear hK K
      refine ordQ_fin ?_
      have HF1 : Hid (Below (w.heap.size + 2) w0 (w36.setCell ⟨PL, 1, none⟩ (.slice A36 (x.er.length + 1) c36))) := Lib.hid ((HN2.out.trans (hB36.mono (by omega))).setCell (p := ⟨PL, 1, none⟩) hPN _)
      have HF2 : Hid (Box (w36.setCell ⟨PL, 1, none⟩ (.slice A36 (x.er.length + 1) c36)) PL [.slice A x.hb.length c, .slice A36 (x.er.length + 1) c36, I (x.en + 1 + by_ + by_)]) := Lib.hid (hL36.set 1 _)
      have HF3 : Hid (WatAt (w36.setCell ⟨PL, 1, none⟩ (.slice A36 (x.er.length + 1) c36)) (longW x s (x.en + 1 + by_) (x.en + 1 + by_ + by_)) A A36) := Lib.hid ⟨(fours_set (HW2.out.below hB36).hb y1 _).more (by simp), (twos_set hT36 y1 _).more (by simp)⟩
      clear hown36 hown37 hg36 H30 H35 HBX hB36 hT36 hL36 y1 u1_ hz36
      go_wp2_with (fail)
      go_meet
      exact ⟨A36, c36, HF1.out, HF2, HF3⟩
  case rest =>
    obtain ⟨A36, c36, hN3, HL3, HW3⟩ := hcut
    obtain ⟨g0_, gf0⟩ := HL3.out.at_ 0 _ rfl
    obtain ⟨g1_, gf1⟩ := HL3.out.at_ 1 _ rfl
    obtain ⟨g2_, gf2⟩ := HL3.out.at_ 2 _ rfl
    go_upto_region 13 with (fail)
    go_cut [126] (fun s wx => ∃ cnd : Bool, s = .bool cnd ∧ (cnd = true → x.en + 1 + by_ + by_ ≤ 1048576 ∧ x.er.length + 1 ≤ 64 ∧ b1 = false) ∧ wx = wc)
    case first => as_aux_lemma =>
      by_cases k1 : x.en + 1 + by_ + by_ ≤ 1048576
      · by_cases k2 : x.er.length + 1 ≤ 64
        · have k3 : (x.er.length : Int) + 1 ≤ 64 := by omega
          go_wp2_with (fail)
          go_meet
          exact ⟨_, rfl, fun h => ⟨k1, k2, by simpa using h⟩, rfl⟩
        · have k3 : ¬ (x.er.length : Int) + 1 ≤ 64 := by omega
          go_wp2_with (fail)
          go_meet
          exact ⟨_, rfl, fun h => by simp at h, rfl⟩
      · go_wp2_with (fail)
        go_meet
        exact ⟨_, rfl, fun h => by simp at h, rfl⟩
    case rest =>
      obtain ⟨cnd, rfl, hcnd, rfl⟩ := hcut
      go_upto_if 126 with (fail)
      go_cut [] (fun wx => Below (w.heap.size + 2) w0 wx)
      case first => as_aux_lemma =>
        cases cnd
        · go_wp2_with (fail)
          go_meet
          exact hN3
        · obtain ⟨k1, k2, rfl⟩ := hcnd rfl
          obtain ⟨a, rfl, ham, hra⟩ := HREF.out rfl
          have hlx := longW_ok (s := s) (e2 := x.en + 1 + by_) (en2 := x.en + 1 + by_ + by_) HXX.out k2 (by omega) (by omega) k1 (by show (0 : Int) ≤ (s : Int) ∧ (s : Int) ≤ (x.hb.length : Int) - 1; omega)
          have hlr := longW_ref (s := s) (e2 := x.en + 1 + by_) (en2 := x.en + 1 + by_ + by_) HXX.out (by omega) (by omega) hra
          have hl64 : Wat64 (longW x s (x.en + 1 + by_) (x.en + 1 + by_ + by_)) := ⟨by unfold In64; show -9223372036854775808 ≤ x.en + 1 + by_ + by_ ∧ x.en + 1 + by_ + by_ ≤ 9223372036854775807; omega, h64.hb, fun k h => long_in64 h64.er (by omega) (by omega) h, h64.hlen, by show (x.er ++ _).length ≤ _; simp; omega⟩
          have H10L := holds10 (longW x s (x.en + 1 + by_) (x.en + 1 + by_ + by_)) A A36 c c36 f t wc hl64 HW3.out
          have hhl : hldR (longW x s (x.en + 1 + by_) (x.en + 1 + by_ + by_)) f t = (false, (a : Int), 0) := by
            unfold hldR
            rw [watB_iff.2 hlx, if_pos rfl, if_pos (by unfold inB; have : (longW x s (x.en + 1 + by_) (x.en + 1 + by_ + by_)).n = x.hb.length := rfl; rw [this]; simp; omega), Int.toNat_natCast, Int.toNat_natCast, hlr]
            rfl
          rw [hhl] at H10L
          have HLL : Hid (Calls Try.prog 10 #[.agg #[.slice A x.hb.length c, .slice A36 (x.er.length + 1) c36, I (x.en + 1 + by_ + by_)], .agg #[I f, I t]] wc fun e w' => e = .returned (.tuple #[.bool false, I a, I 0]) ∧ Below wc.heap.size wc w') := Lib.hid (by have h := H10L; unfold Wat.val at h; rwa [show (longW x s (x.en + 1 + by_) (x.en + 1 + by_ + by_)).er.length = x.er.length + 1 by simp [longW]] at h)
          obtain ⟨m0, m1, m2, l0, l1, hzN, hWN, hBN⟩ := HCP.out _ hN3
          clear H10L hhl hl64 hlr hlx hra
          go_wp2_with (first
            | (go_at_call 10; refine HLL.out.mono ?_; rintro e w10 ⟨rfl, hB10⟩)
            | fail)
          go_meet
          exact hN3.trans (hB10.mono hzN)
      case rest =>
        have HN4 := Lib.hid hcut
        clear hcnd hN3 HL3 HW3 g0_ gf0 g1_ gf1 g2_ gf2
        obtain ⟨m0, m1, m2, l0, l1, hzN, hWN, hBN⟩ := HCP.out _ HN4.out
        replace HN := HN4
        clear HN4
        obtain ⟨w1, hw1⟩ : ∃ w1, wc = w1 := ⟨_, rfl⟩
        rw [hw1] at HN m0 m1 m2 l0 l1 hzN hWN hBN ⊢
        clear hw1
        go_upto_region 20 with (first
          | (go_at_call 15; refine (H15.out _ hWN).mono ?_; rintro e w1 ⟨A15, c15, rfl, ht15, hB⟩; clear H15; replace HN := Lib.hid (HN.out.trans (hB.mono hzN)); clear m0 m1 m2 l0 l1 hzN hWN hBN; obtain ⟨m0, m1, m2, l0, l1, hzN, hWN, hBN⟩ := HCP.out _ HN.out; clear hB)
          | (go_at_call 12; refine (H12.out _ hWN).mono ?_; rintro e w1 ⟨A12, c12, rfl, ht12, hB⟩; clear H12; have HI12 := Lib.hid ht12; clear ht12; replace HN := Lib.hid (HN.out.trans (hB.mono hzN)); clear m0 m1 m2 l0 l1 hzN hWN hBN; obtain ⟨m0, m1, m2, l0, l1, hzN, hWN, hBN⟩ := HCP.out _ HN.out; clear hB)
          | fail)
        clear ht15
        obtain ⟨PW, hPW⟩ : ∃ PW, w1.heap.size = PW := ⟨_, rfl⟩
        obtain ⟨w5, hw5⟩ : ∃ w5, w1.alloc (.cells #[.slice A x.hb.length c, .slice B x.er.length d, I x.en] 25) = w5 := ⟨_, rfl⟩
        have HW5 : Hid (Box w5 PW [.slice A x.hb.length c, .slice B x.er.length d, I x.en]) := Lib.hid (by rw [← hw5, ← hPW]; exact Box.new w1 _ 25)
        have HN5 : Hid (Below (w.heap.size + 2) w0 w5) := Lib.hid (by rw [← hw5]; exact HN.out.alloc hzN _)
        have hzw5 : w5.heap.size = PW + 1 := by rw [← hw5, ← hPW]; simp
        have HI5 : Hid (Ints w5 PW A12 ls) := Lib.hid (by rw [← hw5, ← hPW]; exact HI12.out.below (below1 w1 _))
        rw [hw5]
        rw [hPW] at hzN ⊢
        have hPWN : w.heap.size + 2 ≤ PW := hzN
        clear hw5 hPW m0 m1 m2 l0 l1 hzN hWN hBN HN HI12
        obtain ⟨m0, m1, m2, l0, l1, hzN, hWN, hBN⟩ := HCP.out _ HN5.out
        have c5a : (w5.alloc (.cells #[] 54)).cell? ⟨w.heap.size, 0, none⟩ = some (.slice A x.hb.length c) := (HCP.out _ (HN5.out.alloc hzN _)).1
        have HFC := Lib.hid (flat4_at (hWN.hb.below (below1 w5 (.cells #[] 54))) (by omega))
        obtain ⟨j0, hj0, hj1, hj2, hj3⟩ := info_parts info54
        go_upto_region 21 with (first
          | (at_builtin; go_must (refine wpList_append_any _ rfl _ _ 22 rfl w5.heap.size 54 j0 (.agg #[I 0, I 0, I 0, I 0]) 4 32 Try.underlying22 hj0 hj1 hj2 hj3 rfl (by decide) (.slice (some ⟨w5.heap.size, 0, none⟩) 0 0) 0 [] (by go_simp) (World.ownsRow_made w5 #[] 0 (Nat.le_refl _) (Nat.zero_le _) (by simp)) A x.hb.length c (flat4 x.hb) (by go_simp) (by rw [flat4_len]) (fun _ => HFC.out) (flat4_one x.hb) (by unfold maxLen; omega) (by omega) (by simp) ?_); intro vA wA hownA hgA; obtain ⟨gA, capA, rfl, hBA, hgA1, hgA2, HOA⟩ := app_new hownA hgA (by omega); clear hownA hgA; have bA := HW5.out.call hBA; obtain ⟨xA0, zA0⟩ := bA.at_ 0 _ rfl)
          | fail)
        have hPg : gA ≠ PW := by omega
        obtain ⟨w6, hw6⟩ : ∃ w6, wA.setCell ⟨PW, 0, none⟩ (.slice (some ⟨gA, 0, none⟩) x.hb.length capA) = w6 := ⟨_, rfl⟩
        have HB6 : Hid (Box w6 PW [.slice (some ⟨gA, 0, none⟩) x.hb.length capA, .slice B x.er.length d, I x.en]) := Lib.hid (by rw [← hw6]; exact bA.set 0 _)
        have HO6 : Hid (w6.ownsRow w5.heap.size 54 4 (.slice (some ⟨gA, 0, none⟩) x.hb.length capA) x.hb.length (flat4 x.hb)) := Lib.hid (by rw [← hw6]; exact HOA.out.kept (grown_setC wA ⟨PW, 0, none⟩ _) (.inr (fun e => hPg (by injection e))))
        have HN6 : Hid (Below (w.heap.size + 2) w0 w6) := Lib.hid (by rw [← hw6]; exact (HN5.out.trans (hBA.mono (by omega))).setCell (p := ⟨PW, 0, none⟩) hPWN _)
        have HI6 : Hid (Ints w6 PW A12 ls) := Lib.hid (by rw [← hw6]; exact HI5.out.below ((hBA.mono (show PW ≤ w5.heap.size by omega)).setCell (p := ⟨PW, 0, none⟩) (show PW ≤ PW from Nat.le_refl _) _))
        have hz6 : gA < w6.heap.size ∧ PW < w6.heap.size := by rw [← hw6]; exact ⟨by simpa using hgA2, by have := bA.1; simpa using this⟩
        rw [hw6]
        clear hw6 bA xA0 zA0 HOA hBA HI5 HN5 HW5 HFC c5a m0 m1 m2 l0 l1 hzN hWN hBN
        obtain ⟨b0_, bf0⟩ := HB6.out.at_ 0 _ rfl
        have hcv1 : IntKind.i64.wrap (wh : Int) = (wh : Int) := IntWalk.i64_in _ (by omega)
        have hcv2 : IntKind.i64.wrap (by_ : Int) = (by_ : Int) := IntWalk.i64_in _ (by omega)
        have hs0 : (0 : Int) ≤ (s : Int) := by omega
        have hs1 : (s : Int) < (x.hb.length : Int) := by omega
        refine (wpIn_wide (n := 9)).1 ?_
        refine wpIn_region_text [0, 1, 2, 3, 4, 5, 6, 7, 8] rfl (by kernel_rfl) (by kernel_rfl) (fun _ d _ _ _ h => by cases d <;> exact h) ?_
        iterate 9 (refine ordT_li rfl rfl (fun K hK => ?_); go_simp; refine hK _ ?_; clear hK K)
        refine ordT_nil ?_
        have hfg := flat4_get x.hb s hsn
        rw [hb_get x hsn] at hfg
        obtain ⟨f0, f1, f2, f3⟩ := hfg
        have HCO : Hid (∀ W, Below w6.heap.size w6 W → W.cell? ⟨gA, s * 4, none⟩ = some (I (x.ol s)) ∧ W.cell? ⟨gA, s * 4 + 1, none⟩ = some (I (x.oh s)) ∧ W.frozen? ⟨gA, s * 4, none⟩ = false ∧ W.frozen? ⟨gA, s * 4 + 1, none⟩ = false) := Lib.hid fun W hW => by
          have h := grown_own HO6.out hW
          exact ⟨(h.cellAt _ (by omega)).trans f0, (h.cellAt _ (by omega)).trans f1, h.frozenAt _, h.frozenAt _⟩
        clear f0 f1 f2 f3 b0_ bf0
        go_wp2_with (fail)
        obtain ⟨o0, o1, o2, o3⟩ := HCO.out _ (Below.refl _ w6).drew
        refine (wpIn_wide (n := 9)).1 ?_
        refine wpIn_region_text [0, 1, 2, 3, 4, 5, 6, 7, 8] rfl (by kernel_rfl) (by kernel_rfl) (fun _ d _ _ _ h => by cases d <;> exact h) ?_
        iterate 9 (refine ordT_li rfl rfl (fun K hK => ?_); go_simp; refine hK _ ?_; clear hK K)
        refine ordT_nil ?_
        clear o0 o1 o2 o3
        go_upto_if 176 with (fail)
        have hown := (HXX.out.hab s hsn).own
        have HB6d := HB6
        go_cut [] (fun wx => ∃ lo hi : Int, (In64 lo ∧ In64 hi) ∧ (lo ≤ hi → 0 ≤ lo ∧ hi ≤ 1048576) ∧ (x.ol s ≤ x.oh s → lo ≤ x.ol s ∧ x.oh s ≤ hi) ∧ Below (w.heap.size + 2) w0 wx ∧ Hid (Ints wx PW A12 ls) ∧ Hid (Box wx PW [.slice (some ⟨gA, 0, none⟩) x.hb.length capA, .slice B x.er.length d, I x.en]) ∧ Hid (wx.ownsRow w5.heap.size 54 4 (.slice (some ⟨gA, 0, none⟩) x.hb.length capA) x.hb.length (flat4 (x.hb.set s (lo, hi, x.dl s, x.dh s)))))
        case first => as_aux_lemma =>
          have HFS : Hid (∀ lo hi : Int, flat4 (x.hb.set s (lo, hi, x.dl s, x.dh s)) = ((flat4 x.hb).set (s * 4) (I lo)).set (s * 4 + 1) (I hi)) := Lib.hid fun lo hi => by
            have h := flat4_set01 x.hb s lo hi hsn
            rw [hb_get x hsn] at h
            exact h
          have HWR : Hid (∀ (lo hi : Int) (W : World), Below w6.heap.size w6 W → Below (w.heap.size + 2) w0 ((W.setCell ⟨gA, s * 4, none⟩ (I lo)).setCell ⟨gA, s * 4 + 1, none⟩ (I hi)) ∧ Hid (Ints ((W.setCell ⟨gA, s * 4, none⟩ (I lo)).setCell ⟨gA, s * 4 + 1, none⟩ (I hi)) PW A12 ls) ∧ Hid (Box ((W.setCell ⟨gA, s * 4, none⟩ (I lo)).setCell ⟨gA, s * 4 + 1, none⟩ (I hi)) PW [.slice (some ⟨gA, 0, none⟩) x.hb.length capA, .slice B x.er.length d, I x.en]) ∧ Hid (((W.setCell ⟨gA, s * 4, none⟩ (I lo)).setCell ⟨gA, s * 4 + 1, none⟩ (I hi)).ownsRow w5.heap.size 54 4 (.slice (some ⟨gA, 0, none⟩) x.hb.length capA) x.hb.length (flat4 (x.hb.set s (lo, hi, x.dl s, x.dh s))))) := Lib.hid fun lo hi W hW => by
            have hg1 : w.heap.size + 2 ≤ gA := by omega
            have hg2 : PW ≤ gA := by omega
            refine ⟨((HN6.out.trans (hW.mono (by omega))).setCell (p := ⟨gA, s * 4, none⟩) hg1 _).setCell (p := ⟨gA, s * 4 + 1, none⟩) hg1 _, Lib.hid (HI6.out.below (((hW.mono (show PW ≤ w6.heap.size by omega)).setCell (p := ⟨gA, s * 4, none⟩) hg2 _).setCell (p := ⟨gA, s * 4 + 1, none⟩) hg2 _)), Lib.hid (((HB6.out.call hW).far (p := ⟨gA, s * 4, none⟩) hPg _).far (p := ⟨gA, s * 4 + 1, none⟩) hPg _), Lib.hid ?_⟩
            rw [HFS.out]
            exact ((((grown_own HO6.out hW).stored (s * 4) _).1).stored (s * 4 + 1) _).1
          clear HB6 HO6 HN6 HI6 HFS HB6d
          generalize x.ol s = ol at *
          generalize x.oh s = oh at *
          cases hgt : decide (oh < ol)
          · have hle : ol ≤ oh := by have := of_decide_eq_false hgt; omega
            obtain ⟨hv1, hv2⟩ := hown hle
            have hw1 : IntKind.i64.wrap (ol - by_) = ol - by_ := IntWalk.i64_in _ (by omega)
            have hw2 : IntKind.i64.wrap (oh + by_) = oh + by_ := IntWalk.i64_in _ (by omega)
            go_wp2_with (fail)
            have hC0 : Below w6.heap.size w6 w6.drew.drew.drew := (Below.refl _ w6).drew.drew.drew
            refine (wpIn_wide (n := 9)).1 ?_
            refine wpIn_region_plan (Plan.ons [0, 1, 2, 3, 4, 5, 6, 7, 8, 9, 10, 11, 12, 13, 14, 15, 16, 17, 18, 19] .fin) [0, 1, 2, 3, 4, 5, 6, 7, 8, 9, 10, 11, 12, 13, 14, 15, 16] (fun W => Below w6.heap.size w6 W) [19] rfl (by kernel_rfl) (by kernel_rfl) (fun _ d _ _ _ h => by cases d <;> exact h) hC0 ?_
            (refine ordQ_held (.pointer (some ⟨gA, s * 4, none⟩)) rfl rfl rfl rfl (fun W' hC' => ?_) (fun K hK => ?_); (focus (obtain ⟨o0, o1, o2, o3⟩ := HCO.out _ hC'; go_simp; try exact ⟨rfl, rfl⟩)); go_simp; refine hK _ ?_; clear hK K)
            (refine ordQ_held (.pointer (some ⟨gA, s * 4, none⟩)) rfl rfl rfl rfl (fun W' hC' => ?_) (fun K hK => ?_); (focus (obtain ⟨o0, o1, o2, o3⟩ := HCO.out _ hC'; go_simp; try exact ⟨rfl, rfl⟩)); go_simp; refine hK _ ?_; clear hK K)
            (refine ordQ_held (.pointer (some ⟨gA, s * 4, none⟩)) rfl rfl rfl rfl (fun W' hC' => ?_) (fun K hK => ?_); (focus (obtain ⟨o0, o1, o2, o3⟩ := HCO.out _ hC'; go_simp; try exact ⟨rfl, rfl⟩)); go_simp; refine hK _ ?_; clear hK K)
            (refine ordQ_held (.pointer (some ⟨gA, s * 4, none⟩)) rfl rfl rfl rfl (fun W' hC' => ?_) (fun K hK => ?_); (focus (obtain ⟨o0, o1, o2, o3⟩ := HCO.out _ hC'; go_simp; try exact ⟨rfl, rfl⟩)); go_simp; refine hK _ ?_; clear hK K)
            (refine ordQ_held (I ol) rfl rfl rfl rfl (fun W' hC' => ?_) (fun K hK => ?_); (focus (obtain ⟨o0, o1, o2, o3⟩ := HCO.out _ hC'; go_simp; try exact ⟨rfl, rfl⟩)); go_simp; refine hK _ ?_; clear hK K)
            (refine ordQ_held (.int .u8 by_) rfl rfl rfl rfl (fun W' hC' => ?_) (fun K hK => ?_); (focus (obtain ⟨o0, o1, o2, o3⟩ := HCO.out _ hC'; go_simp; try exact ⟨rfl, rfl⟩)); go_simp; refine hK _ ?_; clear hK K)
            (refine ordQ_held (I by_) rfl rfl rfl rfl (fun W' hC' => ?_) (fun K hK => ?_); (focus (obtain ⟨o0, o1, o2, o3⟩ := HCO.out _ hC'; go_simp; try exact ⟨rfl, rfl⟩)); go_simp; refine hK _ ?_; clear hK K)
            (refine ordQ_held (I (ol - by_)) rfl rfl rfl rfl (fun W' hC' => ?_) (fun K hK => ?_); (focus (obtain ⟨o0, o1, o2, o3⟩ := HCO.out _ hC'; go_simp; try exact ⟨rfl, rfl⟩)); go_simp; refine hK _ ?_; clear hK K)
            (refine ordQ_held (I (max 0 (ol - by_))) rfl rfl rfl rfl (fun W' hC' => ?_) (fun K hK => ?_); (focus (obtain ⟨o0, o1, o2, o3⟩ := HCO.out _ hC'; go_simp; try exact ⟨rfl, rfl⟩)); go_simp; refine hK _ ?_; clear hK K)
            (refine ordQ_held (.pointer (some ⟨gA, s * 4, none⟩)) rfl rfl rfl rfl (fun W' hC' => ?_) (fun K hK => ?_); (focus (obtain ⟨o0, o1, o2, o3⟩ := HCO.out _ hC'; go_simp; try exact ⟨rfl, rfl⟩)); go_simp; refine hK _ ?_; clear hK K)
            (refine ordQ_held (.pointer (some ⟨gA, s * 4, none⟩)) rfl rfl rfl rfl (fun W' hC' => ?_) (fun K hK => ?_); (focus (obtain ⟨o0, o1, o2, o3⟩ := HCO.out _ hC'; go_simp; try exact ⟨rfl, rfl⟩)); go_simp; refine hK _ ?_; clear hK K)
            (refine ordQ_held (.pointer (some ⟨gA, s * 4 + 1, none⟩)) rfl rfl rfl rfl (fun W' hC' => ?_) (fun K hK => ?_); (focus (obtain ⟨o0, o1, o2, o3⟩ := HCO.out _ hC'; go_simp; try exact ⟨rfl, rfl⟩)); go_simp; refine hK _ ?_; clear hK K)
            (refine ordQ_held (I oh) rfl rfl rfl rfl (fun W' hC' => ?_) (fun K hK => ?_); (focus (obtain ⟨o0, o1, o2, o3⟩ := HCO.out _ hC'; go_simp; try exact ⟨rfl, rfl⟩)); go_simp; refine hK _ ?_; clear hK K)
            (refine ordQ_held (.int .u8 by_) rfl rfl rfl rfl (fun W' hC' => ?_) (fun K hK => ?_); (focus (obtain ⟨o0, o1, o2, o3⟩ := HCO.out _ hC'; go_simp; try exact ⟨rfl, rfl⟩)); go_simp; refine hK _ ?_; clear hK K)
            (refine ordQ_held (I by_) rfl rfl rfl rfl (fun W' hC' => ?_) (fun K hK => ?_); (focus (obtain ⟨o0, o1, o2, o3⟩ := HCO.out _ hC'; go_simp; try exact ⟨rfl, rfl⟩)); go_simp; refine hK _ ?_; clear hK K)
            (refine ordQ_held (I (oh + by_)) rfl rfl rfl rfl (fun W' hC' => ?_) (fun K hK => ?_); (focus (obtain ⟨o0, o1, o2, o3⟩ := HCO.out _ hC'; go_simp; try exact ⟨rfl, rfl⟩)); go_simp; refine hK _ ?_; clear hK K)
            (refine ordQ_held (I (min 1048576 (oh + by_))) rfl rfl rfl rfl (fun W' hC' => ?_) (fun K hK => ?_); (focus (obtain ⟨o0, o1, o2, o3⟩ := HCO.out _ hC'; go_simp; try exact ⟨rfl, rfl⟩)); go_simp; refine hK _ ?_; clear hK K)
            refine ordQ_hv rfl rfl rfl (fun K hK => ?_)
            gi_wp2_with (first | (refine And.intro trivial ?_; gi_at_call 26; refine (callsIn_wide.2 (span26 _ _ _)).mono ?_; rintro e w7 ⟨rfl, hB7⟩) | fail)
            have hB67 : Below w6.heap.size w6 w7 := hC0.trans (hB7.mono hC0.size)
            refine hK _ _ (fun _ => hB67) ?_
            clear hK K
            (refine ordQ_li rfl rfl rfl (fun K hK => ?_); go_simp; refine hK _ ?_; clear hK K)
            obtain ⟨o0, o1, o2, o3⟩ := HCO.out w7 hB67
            refine ordQ_hv rfl rfl rfl (fun K hK => ?_)
            gi_wp2
            refine hK _ _ (fun h => by cases h) ?_
            clear hK K
            refine ordQ_fin ?_
            go_wp2_with (fail)
            go_meet
            obtain ⟨r1, r2, r3, r4⟩ := HWR.out (max 0 (ol - by_)) (min 1048576 (oh + by_)) w7 hB67
            exact ⟨_, _, ⟨by unfold In64; omega, by unfold In64; omega⟩, fun _ => by omega, fun h => by omega, r1, r2, r3, r4⟩
          · have hlt := of_decide_eq_true hgt
            go_wp2_with (first
              | (go_at_call 26; refine (span26 _ _ _).mono ?_; rintro e w7 ⟨rfl, hB7⟩; obtain ⟨o0, o1, o2, o3⟩ := HCO.out w7 (below_two hB7))
              | fail)
            go_meet
            obtain ⟨r1, r2, r3, r4⟩ := HWR.out by_ by_ w7 (below_two hB7)
            exact ⟨by_, by_, ⟨by unfold In64; omega, by unfold In64; omega⟩, fun _ => by omega, fun h => by omega, r1, r2, r3, r4⟩
        case rest => as_aux_lemma =>
          clear HB6d HB6 HO6 HN6 HI6 HCO
          obtain ⟨lo, hi, ⟨hlo, hhi⟩, hv0, hv1, hN8, HI8, HB8, HO8⟩ := hcut
          rw [hs] at HWID
          obtain ⟨fs2, z4, ls2, hf2, hl2, hz34, hlen2, hsub⟩ := HWID.out lo hi hv0 hv1
          have h64w := wide_in64 h64 hlo hhi hsn
          have HWX : Hid (∀ W, Below wc.heap.size wc W → WatAt W (wideW x s lo hi) (some ⟨gA, 0, none⟩) B) := Lib.hid fun W hW => by
            have h1 : WatAt wc (wideW x s lo hi) (some ⟨gA, 0, none⟩) B := ⟨fours_own HO8.out, (HCP.out _ hN8).2.2.2.2.2.2.1.er⟩
            exact h1.below hW
          have hv : (wideW x s lo hi).val (some ⟨gA, 0, none⟩) capA B d = .agg #[.slice (some ⟨gA, 0, none⟩) x.hb.length capA, .slice B x.er.length d, I x.en] := by
            unfold Wat.val
            rw [show (wideW x s lo hi).hb.length = x.hb.length from List.length_set]
            rfl
          have H15w : Hid (∀ W, Below wc.heap.size wc W → Calls Try.prog 15 #[.agg #[.slice (some ⟨gA, 0, none⟩) x.hb.length capA, .slice B x.er.length d, I x.en]] W fun e w' => ∃ A' c', e = .returned (.tuple #[.slice A' fs2.length c', I z4]) ∧ Twos w' w'.heap.size A' fs2 ∧ Below W.heap.size W w') := Lib.hid fun W hW => by have h := fewest15 (wideW x s lo hi) (some ⟨gA, 0, none⟩) B capA d W h64w (HWX.out W hW); rw [hf2, hv] at h; exact h
          have H12w : Hid (∀ W, Below wc.heap.size wc W → Calls Try.prog 12 #[.agg #[.slice (some ⟨gA, 0, none⟩) x.hb.length capA, .slice B x.er.length d, I x.en]] W fun e w' => ∃ A' c', e = .returned (.tuple #[.slice A' ls2.length c', I 0]) ∧ Ints w' w'.heap.size A' ls2 ∧ Below W.heap.size W w') := Lib.hid fun W hW => by have h := lacking12 (wideW x s lo hi) (some ⟨gA, 0, none⟩) B capA d W h64w (HWX.out W hW); rw [hl2, hv] at h; exact h
          have HSUB := Lib.hid hsub
          have HNC : Hid (Below wc.heap.size wc wc) := Lib.hid (Below.refl _ _)
          have HBC := HB8
          have HII : Hid (Ints wc wc.heap.size A12 ls) := Lib.hid (HI8.out.more (by have := HB8.out.1; omega))
          have hNw := (HCP.out _ hN8).2.2.2.2.2.2.2
          obtain ⟨n0, nf0⟩ := HBC.out.at_ 0 _ rfl
          obtain ⟨n1, nf1⟩ := HBC.out.at_ 1 _ rfl
          obtain ⟨n2, nf2⟩ := HBC.out.at_ 2 _ rfl
          have hlb : decide (ls.length < ls2.length) = false := decide_eq_false (by omega)
          have hlb' : decide ((ls.length : Int) < (ls2.length : Int)) = false := decide_eq_false (by omega)
          clear HWX HWID hf2 hl2 hv hv0 hv1 hlo hhi h64w HO8 HI8 HB8 hs hcv1 hcv2 hcv6 hrem hrem2 HCP hsub
          go_wp2_with (first
            | (go_at_call 15; refine (H15w.out _ HNC.out).mono ?_; rintro e w21 ⟨A24, c24, rfl, _, hB⟩; clear H15w; replace HII := Lib.hid ((HII.out.below hB).more hB.size); replace HBC := Lib.hid (HBC.out.call hB); replace HNC := Lib.hid (HNC.out.trans (hB.mono HNC.out.size)); clear n0 nf0 n1 nf1 n2 nf2 hB; obtain ⟨n0, nf0⟩ := HBC.out.at_ 0 _ rfl; obtain ⟨n1, nf1⟩ := HBC.out.at_ 1 _ rfl; obtain ⟨n2, nf2⟩ := HBC.out.at_ 2 _ rfl)
            | (go_at_call 12; refine (H12w.out _ HNC.out).mono ?_; rintro e w21 ⟨A26, c26, rfl, hi26, hB⟩; clear H12w; have HI26 := Lib.hid hi26; clear hi26; replace HII := Lib.hid ((HII.out.below hB).more hB.size); replace HBC := Lib.hid (HBC.out.call hB); replace HNC := Lib.hid (HNC.out.trans (hB.mono HNC.out.size)); clear n0 nf0 n1 nf1 n2 nf2 hB; obtain ⟨n0, nf0⟩ := HBC.out.at_ 0 _ rfl; obtain ⟨n1, nf1⟩ := HBC.out.at_ 1 _ rfl; obtain ⟨n2, nf2⟩ := HBC.out.at_ 2 _ rfl)
            | fail)
          have hz1 := HNC.out.size
          clear n0 nf0 n1 nf1 n2 nf2 HBC
          go_loopw [28] (fun s wi => ∃ i : Nat, i ≤ ls2.length ∧ s = I i ∧ Below w21.heap.size w21 wi) (fun s _ => ls2.length - (intOf s).toNat)
          case atStart => exact ⟨0, by omega, rfl, Below.refl _ _⟩
          case round =>
            obtain ⟨i, hi, rfl, hB⟩ := hrel
            by_cases hlt : i < ls2.length
            · obtain ⟨rb, ro, rfl, hrz, hrc⟩ := HI26.out (by omega)
              have q0 := hrc i hlt
              have HIN := Lib.hid (inI_mem (HSUB.out ls2[i] (List.getElem_mem hlt)))
              have HRC : Hid (∀ W, Below w21.heap.size w21 W → W.cell? ⟨rb, ro + i, none⟩ = some (I ls2[i])) := Lib.hid fun W h => (h.cell (p := ⟨rb, _, none⟩) hrz).trans q0
              clear q0 hrc
              have p0 : (0 : Int) ≤ (i : Int) := by omega
              have p1 : (i : Int) < (ls2.length : Int) := by omega
              generalize ls2[i] = v at *
              go_wp2_with (fail)
              have HB1 := Lib.hid hB
              clear hB
              go_loopw [29, 30] (fun s14 s16 wi => ∃ k : Nat, k ≤ ls.length ∧ s16 = I k ∧ s14 = .bool (inI ls v k) ∧ Below w21.heap.size w21 wi) (fun _ s _ => ls.length - (intOf s).toNat)
              case atStart => exact ⟨0, by omega, rfl, rfl, HB1.out⟩
              case round =>
                clear HB1
                obtain ⟨k, hk, rfl, rfl, hB⟩ := hrel
                by_cases hlk : k < ls.length
                · obtain ⟨ob, oo, rfl, hoz, hoc⟩ := HII.out (by omega)
                  have q0 := (hB.cell (p := ⟨ob, _, none⟩) hoz).trans (hoc k hlk)
                  have r0 := HRC.out _ hB
                  have HNX := Lib.hid (inI_succ (v := v) hlk)
                  clear hoc
                  generalize ls[k] = e_ at *
                  obtain ⟨bq, hbq⟩ : ∃ b, (e_ == v) = b := ⟨_, rfl⟩
                  rw [hbq] at HNX
                  have s0 : (0 : Int) ≤ (k : Int) := by omega
                  have s1 : (k : Int) < (ls.length : Int) := by omega
                  obtain ⟨fo, hfo⟩ : ∃ fo, inI ls v k = fo := ⟨_, rfl⟩
                  rw [hfo] at HNX ⊢
                  clear hfo
                  cases fo
                  · go_wp2_with (fail)
                    refine (wpIn_wide (n := 9)).1 ?_
                    refine wpIn_region_text [0, 1, 2, 3, 4, 5, 6, 7, 8, 9, 10, 11, 12] rfl (by kernel_rfl) (by kernel_rfl) (fun _ d _ _ _ h => by cases d <;> exact h) ?_
                    iterate 13 (refine ordT_li rfl rfl (fun K hK => ?_); go_simp; refine hK _ ?_; clear hK K)
                    refine ordT_nil ?_
                    clear q0 r0
                    go_wp2_with (fail)
                    go_roundw
                    case rel => first | exact ⟨k + 1, by omega, by go_num, by rw [HNX.out]; first | rfl | simp, (by first | exact hB.drew | exact (below_drewN hB _).drew | exact below_drewN hB _)⟩ | ((repeat apply Exists.intro); refine ⟨?_, rfl⟩; exact ⟨k + 1, by omega, by go_num, by rw [HNX.out]; first | rfl | simp, (by first | exact hB.drew | exact (below_drewN hB _).drew | exact below_drewN hB _)⟩)
                    case measure => first | (simp [intOf]; done) | (simp [intOf]; omega)
                  · go_wp2_with (fail)
                    refine (wpIn_wide (n := 9)).1 ?_
                    refine wpIn_region_text [0, 1, 2, 3, 4, 5, 6, 7, 8, 9, 10, 11, 12] rfl (by kernel_rfl) (by kernel_rfl) (fun _ d _ _ _ h => by cases d <;> exact h) ?_
                    iterate 13 (refine ordT_li rfl rfl (fun K hK => ?_); go_simp; refine hK _ ?_; clear hK K)
                    refine ordT_nil ?_
                    clear q0 r0
                    go_wp2_with (fail)
                    go_roundw
                    case rel => first | exact ⟨k + 1, by omega, by go_num, by rw [HNX.out]; first | rfl | simp, (by first | exact hB.drew | exact (below_drewN hB _).drew | exact below_drewN hB _)⟩ | ((repeat apply Exists.intro); refine ⟨?_, rfl⟩; exact ⟨k + 1, by omega, by go_num, by rw [HNX.out]; first | rfl | simp, (by first | exact hB.drew | exact (below_drewN hB _).drew | exact below_drewN hB _)⟩)
                    case measure => first | (simp [intOf]; done) | (simp [intOf]; omega)
                · obtain rfl : k = ls.length := by omega
                  rw [HIN.out]
                  go_wp2_with (fail)
                  go_roundw
                  case rel => first | exact ⟨i + 1, by omega, by go_num, hB⟩ | ((repeat apply Exists.intro); refine ⟨?_, rfl⟩; exact ⟨i + 1, by omega, by go_num, hB⟩)
                  case measure => first | (simp [intOf]; done) | (simp [intOf]; omega)
            · have hBF := hNw.trans (((HNC.out).trans (hB.mono hz1)).mono hNw.size)
              by_cases hz : z3 = 0
              · obtain ⟨rfl, hle⟩ := hz34 hz
                subst hz
                have hlc : decide (fs2.length ≤ fs.length) = true := decide_eq_true hle
                have hlc' : decide ((fs2.length : Int) ≤ (fs.length : Int)) = true := decide_eq_true (by omega)
                go_wp2_with (first
                  | (go_at_call 9; refine (H9.out _).mono ?_; rintro e w9 ⟨rfl, hB9⟩)
                  | fail)
                exact bodyPost_ret (v := .bool true) (by simp [results, Try.results7, go_sem]) rfl ⟨rfl, hBF.trans (hB9.mono hBF.size)⟩
              · have hzb : (z3 != 0) = true := by simpa using hz
                go_wp2_with (first
                  | (go_at_call 9; refine (H9.out _).mono ?_; rintro e w9 ⟨rfl, hB9⟩)
                  | fail)
                exact bodyPost_ret (v := .bool true) (by simp [results, Try.results7, go_sem]) rfl ⟨rfl, hBF.trans (hB9.mono hBF.size)⟩
end Go.Proofs.Ytijgfdncocjncaa
