/- Law 6, the easy walks. -/
import Derived.Test.YtijgfdncocjncaaG8
import Derived.Test.YtijgfdncocjncaaL6
import Derived.Deep.CutRange
import Derived.Deep.DeepCutAuto
namespace Go.Proofs.Ytijgfdncocjncaa
set_option linter.unusedVariables false
set_option linter.unusedSimpArgs false
open Go Go.RowKit

set_option maxRecDepth 100000 in
set_option maxHeartbeats 8000000 in
theorem any6_large (x : Wat) (A B : Option Addr) (c d : Nat) (f t : Int) (la tu : Nat) (w : World) (h64 : Wat64 x) (hW : WatAt w x A B) (hla : la < 65536) (htu : tu < 256) (hlg : lrgB x 40 = true) :
    Calls Try.prog 6 #[x.val A c B d, .agg #[I f, I t], .int .u16 la, .int .u8 tu] w fun e w' => e = .returned (.bool true) ∧ Below w.heap.size w w' := by
  have HWA : Hid (∀ W, Below w.heap.size w W → WatAt W x A B) := Lib.hid fun W h => hW.below h
  have H8 : Hid (∀ W, Calls Try.prog 8 #[x.val A c B d, I 40] W fun e w' => e = .returned (.bool true) ∧ Below W.heap.size W w') := Lib.hid fun W => by have h := large8b x A B c d 40 W h64; rw [hlg] at h; exact h
  have H9 := Lib.hid awake9
  have hv : x.val A c B d = .agg #[.slice A x.hb.length c, .slice B x.er.length d, I x.en] := rfl
  rw [hv] at H8 ⊢
  clear hv
  have HX0 : Hid (Box ((w.alloc (.cells #[.slice A x.hb.length c, .slice B x.er.length d, I x.en] 25)).alloc (.cells #[I f, I t] 27)) w.heap.size [.slice A x.hb.length c, .slice B x.er.length d, I x.en]) := Lib.hid ((Box.new w [.slice A x.hb.length c, .slice B x.er.length d, I x.en] 25).alloc _)
  have HL0 : Hid (Box ((w.alloc (.cells #[.slice A x.hb.length c, .slice B x.er.length d, I x.en] 25)).alloc (.cells #[I f, I t] 27)) (w.heap.size + 1) [I f, I t]) := Lib.hid (by have := Box.new (w.alloc (.cells #[.slice A x.hb.length c, .slice B x.er.length d, I x.en] 25)) [I f, I t] 27; rw [World.size_alloc] at this; exact this)
  have HB0 : Hid (Below w.heap.size w ((w.alloc (.cells #[.slice A x.hb.length c, .slice B x.er.length d, I x.en] 25)).alloc (.cells #[I f, I t] 27))) := Lib.hid (by (repeat' (first | assumption | exact Below.refl _ _ | refine Below.drew ?_ | refine below_drewN ?_ _ | refine Below.setCell ?_ (by first | omega | (simp; done) | (simp; omega)) _ | refine Below.alloc ?_ (by first | omega | (simp; done) | (simp; omega)) _ | refine Below.trans ?_ (Below.mono (by assumption) (by first | omega | (simp; done) | (simp; omega))))))
  have HZ0 : Hid (((w.alloc (.cells #[.slice A x.hb.length c, .slice B x.er.length d, I x.en] 25)).alloc (.cells #[I f, I t] 27)).heap.size = w.heap.size + 2) := Lib.hid (by simp)
  go_enter Try.func6, Try.ntmps6
  go_upto_region 1 with (fail)
  generalize ((w.alloc (.cells #[.slice A x.hb.length c, .slice B x.er.length d, I x.en] 25)).alloc (.cells #[I f, I t] 27)) = w0 at *
  have hz0 := HZ0.out
  have HCP : Hid (∀ W, Below (w.heap.size + 2) w0 W → W.cell? ⟨w.heap.size, 0, none⟩ = some (.slice A x.hb.length c) ∧ W.cell? ⟨w.heap.size, 1, none⟩ = some (.slice B x.er.length d) ∧ W.cell? ⟨w.heap.size, 2, none⟩ = some (I x.en) ∧ W.cell? ⟨w.heap.size + 1, 0, none⟩ = some (I f) ∧ W.cell? ⟨w.heap.size + 1, 1, none⟩ = some (I t) ∧ w.heap.size + 2 ≤ W.heap.size ∧ WatAt W x A B ∧ Below w.heap.size w W) := Lib.hid fun W hB => by
    have h1 := HX0.out.below hB (by omega)
    have h2 := HL0.out.below hB (by omega)
    have h3 := HB0.out.trans (hB.mono (by omega))
    exact ⟨(h1.at_ 0 _ rfl).1, (h1.at_ 1 _ rfl).1, (h1.at_ 2 _ rfl).1, (h2.at_ 0 _ rfl).1, (h2.at_ 1 _ rfl).1, by have := hB.size; omega, HWA.out W h3, h3⟩
  have HN : Hid (Below (w.heap.size + 2) w0 w0) := Lib.hid (Below.refl _ _)
  obtain ⟨m0, m1, m2, l0, l1, hzN, hWN, hBN⟩ := HCP.out _ HN.out
  clear HX0 HL0 HB0
  go_wp2_with (first
    | (go_at_call 8; refine (H8.out _).mono ?_; rintro e w1 ⟨rfl, hB⟩; clear H8; replace HN := Lib.hid (HN.out.trans (hB.mono hzN)); clear m0 m1 m2 l0 l1 hzN hWN hBN; obtain ⟨m0, m1, m2, l0, l1, hzN, hWN, hBN⟩ := HCP.out _ HN.out; clear hB)
    | (go_at_call 9; refine (H9.out _).mono ?_; rintro e w1 ⟨rfl, hB⟩; clear H9; replace HN := Lib.hid (HN.out.trans (hB.mono hzN)); clear m0 m1 m2 l0 l1 hzN hWN hBN; obtain ⟨m0, m1, m2, l0, l1, hzN, hWN, hBN⟩ := HCP.out _ HN.out; clear hB)
    | fail)
  exact bodyPost_ret (v := .bool true) (by simp [results, Try.results6, go_sem]) rfl ⟨rfl, hBN⟩
set_option maxRecDepth 100000 in
set_option maxHeartbeats 8000000 in
theorem any6_bad (x : Wat) (A B : Option Addr) (c d : Nat) (f t : Int) (la tu : Nat) (w : World) (h64 : Wat64 x) (hW : WatAt w x A B) (hla : la < 65536) (htu : tu < 256) (hlg : lrgB x 40 = false) (hwb : watB x = false) :
    Calls Try.prog 6 #[x.val A c B d, .agg #[I f, I t], .int .u16 la, .int .u8 tu] w fun e w' => e = .returned (.bool true) ∧ Below w.heap.size w w' := by
  have HWA : Hid (∀ W, Below w.heap.size w W → WatAt W x A B) := Lib.hid fun W h => hW.below h
  have H8 : Hid (∀ W, Calls Try.prog 8 #[x.val A c B d, I 40] W fun e w' => e = .returned (.bool false) ∧ Below W.heap.size W w') := Lib.hid fun W => by have h := large8b x A B c d 40 W h64; rw [hlg] at h; exact h
  obtain ⟨b1, z3, z4, hh⟩ : ∃ b1 z3 z4, hldR x f t = (b1, z3, z4) := ⟨_, _, _, rfl⟩
  obtain ⟨e1, e2, _⟩ := bad_R hwb
  have H15 : Hid (∀ W, WatAt W x A B → Calls Try.prog 15 #[x.val A c B d] W fun e w' => ∃ A' c', e = .returned (.tuple #[.slice A' 0 c', I 1]) ∧ Below W.heap.size W w') := Lib.hid fun W h => by have := fewest15 x A B c d W h64 h; rw [e1] at this; exact this.mono fun e w' ⟨A', c', h1, _, h2⟩ => ⟨A', c', h1, h2⟩
  have H17 : Hid (∀ W, WatAt W x A B → Calls Try.prog 17 #[x.val A c B d] W fun e w' => ∃ A' c', e = .returned (.tuple #[.slice A' 0 c', I 1]) ∧ Below W.heap.size W w') := Lib.hid fun W h => by have := needed17 x A B c d W h64 h; rw [e2] at this; exact this.mono fun e w' ⟨A', c', h1, _, h2⟩ => ⟨A', c', h1, h2⟩
  have H10 : Hid (∀ W, WatAt W x A B → Calls Try.prog 10 #[x.val A c B d, .agg #[I f, I t]] W fun e w' => e = .returned (.tuple #[.bool b1, I z3, I z4]) ∧ Below W.heap.size W w') := Lib.hid fun W h => by have := holds10 x A B c d f t W h64 h; rw [hh] at this; exact this
  clear hh e1 e2
  have H9 := Lib.hid awake9
  have hv : x.val A c B d = .agg #[.slice A x.hb.length c, .slice B x.er.length d, I x.en] := rfl
  rw [hv] at H8 H15 H17 H10 ⊢
  clear hv
  have HX0 : Hid (Box ((w.alloc (.cells #[.slice A x.hb.length c, .slice B x.er.length d, I x.en] 25)).alloc (.cells #[I f, I t] 27)) w.heap.size [.slice A x.hb.length c, .slice B x.er.length d, I x.en]) := Lib.hid ((Box.new w [.slice A x.hb.length c, .slice B x.er.length d, I x.en] 25).alloc _)
  have HL0 : Hid (Box ((w.alloc (.cells #[.slice A x.hb.length c, .slice B x.er.length d, I x.en] 25)).alloc (.cells #[I f, I t] 27)) (w.heap.size + 1) [I f, I t]) := Lib.hid (by have := Box.new (w.alloc (.cells #[.slice A x.hb.length c, .slice B x.er.length d, I x.en] 25)) [I f, I t] 27; rw [World.size_alloc] at this; exact this)
  have HB0 : Hid (Below w.heap.size w ((w.alloc (.cells #[.slice A x.hb.length c, .slice B x.er.length d, I x.en] 25)).alloc (.cells #[I f, I t] 27))) := Lib.hid (by (repeat' (first | assumption | exact Below.refl _ _ | refine Below.drew ?_ | refine below_drewN ?_ _ | refine Below.setCell ?_ (by first | omega | (simp; done) | (simp; omega)) _ | refine Below.alloc ?_ (by first | omega | (simp; done) | (simp; omega)) _ | refine Below.trans ?_ (Below.mono (by assumption) (by first | omega | (simp; done) | (simp; omega))))))
  have HZ0 : Hid (((w.alloc (.cells #[.slice A x.hb.length c, .slice B x.er.length d, I x.en] 25)).alloc (.cells #[I f, I t] 27)).heap.size = w.heap.size + 2) := Lib.hid (by simp)
  go_enter Try.func6, Try.ntmps6
  go_upto_region 1 with (fail)
  generalize ((w.alloc (.cells #[.slice A x.hb.length c, .slice B x.er.length d, I x.en] 25)).alloc (.cells #[I f, I t] 27)) = w0 at *
  have hz0 := HZ0.out
  have HCP : Hid (∀ W, Below (w.heap.size + 2) w0 W → W.cell? ⟨w.heap.size, 0, none⟩ = some (.slice A x.hb.length c) ∧ W.cell? ⟨w.heap.size, 1, none⟩ = some (.slice B x.er.length d) ∧ W.cell? ⟨w.heap.size, 2, none⟩ = some (I x.en) ∧ W.cell? ⟨w.heap.size + 1, 0, none⟩ = some (I f) ∧ W.cell? ⟨w.heap.size + 1, 1, none⟩ = some (I t) ∧ w.heap.size + 2 ≤ W.heap.size ∧ WatAt W x A B ∧ Below w.heap.size w W) := Lib.hid fun W hB => by
    have h1 := HX0.out.below hB (by omega)
    have h2 := HL0.out.below hB (by omega)
    have h3 := HB0.out.trans (hB.mono (by omega))
    exact ⟨(h1.at_ 0 _ rfl).1, (h1.at_ 1 _ rfl).1, (h1.at_ 2 _ rfl).1, (h2.at_ 0 _ rfl).1, (h2.at_ 1 _ rfl).1, by have := hB.size; omega, HWA.out W h3, h3⟩
  have HN : Hid (Below (w.heap.size + 2) w0 w0) := Lib.hid (Below.refl _ _)
  obtain ⟨m0, m1, m2, l0, l1, hzN, hWN, hBN⟩ := HCP.out _ HN.out
  clear HX0 HL0 HB0
  go_wp2_with (first
    | (go_at_call 8; refine (H8.out _).mono ?_; rintro e w1 ⟨rfl, hB⟩; clear H8; replace HN := Lib.hid (HN.out.trans (hB.mono hzN)); clear m0 m1 m2 l0 l1 hzN hWN hBN; obtain ⟨m0, m1, m2, l0, l1, hzN, hWN, hBN⟩ := HCP.out _ HN.out; clear hB)
    | (go_at_call 15; refine (H15.out _ hWN).mono ?_; rintro e w1 ⟨A15, c15, rfl, hB⟩; clear H15; replace HN := Lib.hid (HN.out.trans (hB.mono hzN)); clear m0 m1 m2 l0 l1 hzN hWN hBN; obtain ⟨m0, m1, m2, l0, l1, hzN, hWN, hBN⟩ := HCP.out _ HN.out; clear hB)
    | (go_at_call 17; refine (H17.out _ hWN).mono ?_; rintro e w1 ⟨A17, c17, rfl, hB⟩; clear H17; replace HN := Lib.hid (HN.out.trans (hB.mono hzN)); clear m0 m1 m2 l0 l1 hzN hWN hBN; obtain ⟨m0, m1, m2, l0, l1, hzN, hWN, hBN⟩ := HCP.out _ HN.out; clear hB)
    | (go_at_call 10; refine (H10.out _ hWN).mono ?_; rintro e w1 ⟨rfl, hB⟩; clear H10; replace HN := Lib.hid (HN.out.trans (hB.mono hzN)); clear m0 m1 m2 l0 l1 hzN hWN hBN; obtain ⟨m0, m1, m2, l0, l1, hzN, hWN, hBN⟩ := HCP.out _ HN.out; clear hB)
    | (go_at_call 9; refine (H9.out _).mono ?_; rintro e w1 ⟨rfl, hB⟩; clear H9; replace HN := Lib.hid (HN.out.trans (hB.mono hzN)); clear m0 m1 m2 l0 l1 hzN hWN hBN; obtain ⟨m0, m1, m2, l0, l1, hzN, hWN, hBN⟩ := HCP.out _ HN.out; clear hB)
    | fail)
  exact bodyPost_ret (v := .bool true) (by simp [results, Try.results6, go_sem]) rfl ⟨rfl, hBN⟩
set_option maxRecDepth 100000 in
set_option maxHeartbeats 8000000 in
theorem any6_over (x : Wat) (A B : Option Addr) (c d : Nat) (f t : Int) (la tu : Nat) (w : World) (h64 : Wat64 x) (hW : WatAt w x A B) (hla : la < 65536) (htu : tu < 256) (hlg : lrgB x 40 = false) (hwb : watB x = true) (hov : 1048576 < x.en + la) :
    Calls Try.prog 6 #[x.val A c B d, .agg #[I f, I t], .int .u16 la, .int .u8 tu] w fun e w' => e = .returned (.bool true) ∧ Below w.heap.size w w' := by
  have HWA : Hid (∀ W, Below w.heap.size w W → WatAt W x A B) := Lib.hid fun W h => hW.below h
  have H8 : Hid (∀ W, Calls Try.prog 8 #[x.val A c B d, I 40] W fun e w' => e = .returned (.bool false) ∧ Below W.heap.size W w') := Lib.hid fun W => by have h := large8b x A B c d 40 W h64; rw [hlg] at h; exact h
  obtain ⟨b1, z3, z4, hh⟩ : ∃ b1 z3 z4, hldR x f t = (b1, z3, z4) := ⟨_, _, _, rfl⟩
  have hx := watB_iff.1 hwb
  have hen := hx.en
  obtain ⟨fs, z1, hfs⟩ : ∃ fs z1, fewR x = (fs, z1) := ⟨_, _, rfl⟩
  obtain ⟨ns, z2, hns⟩ : ∃ ns z2, nedR x = (ns, z2) := ⟨_, _, rfl⟩
  have hz1 : (z1 == 1) = false := by
    have h : (fewR x).2 = 0 ∨ (fewR x).2 = 4 := by
      cases ho : fewTo x x.n with
      | none => rw [fewR_none hwb ho]; exact .inr rfl
      | some o => rw [fewR_of hwb ho]; exact .inl rfl
    rw [hfs] at h
    rcases h with h | h
    · show (z1 == 1) = false
      rw [show z1 = 0 from h]; rfl
    · show (z1 == 1) = false
      rw [show z1 = 4 from h]; rfl
  have hcv : IntKind.i64.wrap (la : Int) = (la : Int) := IntWalk.i64_in _ (by omega)
  have hcw : IntKind.i64.wrap (x.en + la) = x.en + la := IntWalk.i64_in _ (by omega)
  have H15 : Hid (∀ W, WatAt W x A B → Calls Try.prog 15 #[x.val A c B d] W fun e w' => ∃ A' c', e = .returned (.tuple #[.slice A' fs.length c', I z1]) ∧ Twos w' w'.heap.size A' fs ∧ Below W.heap.size W w') := Lib.hid fun W h => by have := fewest15 x A B c d W h64 h; rw [hfs] at this; exact this
  have H17 : Hid (∀ W, WatAt W x A B → Calls Try.prog 17 #[x.val A c B d] W fun e w' => ∃ A' c', e = .returned (.tuple #[.slice A' ns.length c', I z2]) ∧ Twos w' w'.heap.size A' ns ∧ Below W.heap.size W w') := Lib.hid fun W h => by have := needed17 x A B c d W h64 h; rw [hns] at this; exact this
  have H10 : Hid (∀ W, WatAt W x A B → Calls Try.prog 10 #[x.val A c B d, .agg #[I f, I t]] W fun e w' => e = .returned (.tuple #[.bool b1, I z3, I z4]) ∧ Below W.heap.size W w') := Lib.hid fun W h => by have := holds10 x A B c d f t W h64 h; rw [hh] at this; exact this
  have H20 : Hid (∀ W, WatAt W x A B → Calls Try.prog 20 #[x.val A c B d] W fun e w' => e = .returned (.bool true) ∧ Below W.heap.size W w') := Lib.hid fun W h => by have h := watch20 x A B c d W h64 h; rw [hwb] at h; exact h
  clear hh hfs hns hx
  have H9 := Lib.hid awake9
  have hv : x.val A c B d = .agg #[.slice A x.hb.length c, .slice B x.er.length d, I x.en] := rfl
  rw [hv] at H8 H15 H17 H10 H20 ⊢
  clear hv
  have HX0 : Hid (Box ((w.alloc (.cells #[.slice A x.hb.length c, .slice B x.er.length d, I x.en] 25)).alloc (.cells #[I f, I t] 27)) w.heap.size [.slice A x.hb.length c, .slice B x.er.length d, I x.en]) := Lib.hid ((Box.new w [.slice A x.hb.length c, .slice B x.er.length d, I x.en] 25).alloc _)
  have HL0 : Hid (Box ((w.alloc (.cells #[.slice A x.hb.length c, .slice B x.er.length d, I x.en] 25)).alloc (.cells #[I f, I t] 27)) (w.heap.size + 1) [I f, I t]) := Lib.hid (by have := Box.new (w.alloc (.cells #[.slice A x.hb.length c, .slice B x.er.length d, I x.en] 25)) [I f, I t] 27; rw [World.size_alloc] at this; exact this)
  have HB0 : Hid (Below w.heap.size w ((w.alloc (.cells #[.slice A x.hb.length c, .slice B x.er.length d, I x.en] 25)).alloc (.cells #[I f, I t] 27))) := Lib.hid (by (repeat' (first | assumption | exact Below.refl _ _ | refine Below.drew ?_ | refine below_drewN ?_ _ | refine Below.setCell ?_ (by first | omega | (simp; done) | (simp; omega)) _ | refine Below.alloc ?_ (by first | omega | (simp; done) | (simp; omega)) _ | refine Below.trans ?_ (Below.mono (by assumption) (by first | omega | (simp; done) | (simp; omega))))))
  have HZ0 : Hid (((w.alloc (.cells #[.slice A x.hb.length c, .slice B x.er.length d, I x.en] 25)).alloc (.cells #[I f, I t] 27)).heap.size = w.heap.size + 2) := Lib.hid (by simp)
  go_enter Try.func6, Try.ntmps6
  go_upto_region 1 with (fail)
  generalize ((w.alloc (.cells #[.slice A x.hb.length c, .slice B x.er.length d, I x.en] 25)).alloc (.cells #[I f, I t] 27)) = w0 at *
  have hz0 := HZ0.out
  have HCP : Hid (∀ W, Below (w.heap.size + 2) w0 W → W.cell? ⟨w.heap.size, 0, none⟩ = some (.slice A x.hb.length c) ∧ W.cell? ⟨w.heap.size, 1, none⟩ = some (.slice B x.er.length d) ∧ W.cell? ⟨w.heap.size, 2, none⟩ = some (I x.en) ∧ W.cell? ⟨w.heap.size + 1, 0, none⟩ = some (I f) ∧ W.cell? ⟨w.heap.size + 1, 1, none⟩ = some (I t) ∧ w.heap.size + 2 ≤ W.heap.size ∧ WatAt W x A B ∧ Below w.heap.size w W) := Lib.hid fun W hB => by
    have h1 := HX0.out.below hB (by omega)
    have h2 := HL0.out.below hB (by omega)
    have h3 := HB0.out.trans (hB.mono (by omega))
    exact ⟨(h1.at_ 0 _ rfl).1, (h1.at_ 1 _ rfl).1, (h1.at_ 2 _ rfl).1, (h2.at_ 0 _ rfl).1, (h2.at_ 1 _ rfl).1, by have := hB.size; omega, HWA.out W h3, h3⟩
  have HN : Hid (Below (w.heap.size + 2) w0 w0) := Lib.hid (Below.refl _ _)
  obtain ⟨m0, m1, m2, l0, l1, hzN, hWN, hBN⟩ := HCP.out _ HN.out
  clear HX0 HL0 HB0
  go_wp2_with (first
    | (go_at_call 8; refine (H8.out _).mono ?_; rintro e w1 ⟨rfl, hB⟩; clear H8; replace HN := Lib.hid (HN.out.trans (hB.mono hzN)); clear m0 m1 m2 l0 l1 hzN hWN hBN; obtain ⟨m0, m1, m2, l0, l1, hzN, hWN, hBN⟩ := HCP.out _ HN.out; clear hB)
    | (go_at_call 15; refine (H15.out _ hWN).mono ?_; rintro e w1 ⟨A15, c15, rfl, ht, hB⟩; clear H15; have HT15 := Lib.hid ht; clear ht; replace HN := Lib.hid (HN.out.trans (hB.mono hzN)); clear m0 m1 m2 l0 l1 hzN hWN hBN; obtain ⟨m0, m1, m2, l0, l1, hzN, hWN, hBN⟩ := HCP.out _ HN.out; clear hB)
    | (go_at_call 17; refine (H17.out _ hWN).mono ?_; rintro e w1 ⟨A17, c17, rfl, ht, hB⟩; clear H17; have HT17 := Lib.hid ht; clear ht; replace HN := Lib.hid (HN.out.trans (hB.mono hzN)); clear m0 m1 m2 l0 l1 hzN hWN hBN; obtain ⟨m0, m1, m2, l0, l1, hzN, hWN, hBN⟩ := HCP.out _ HN.out; clear hB)
    | (go_at_call 10; refine (H10.out _ hWN).mono ?_; rintro e w1 ⟨rfl, hB⟩; clear H10; replace HN := Lib.hid (HN.out.trans (hB.mono hzN)); clear m0 m1 m2 l0 l1 hzN hWN hBN; obtain ⟨m0, m1, m2, l0, l1, hzN, hWN, hBN⟩ := HCP.out _ HN.out; clear hB)
    | (go_at_call 20; refine (H20.out _ hWN).mono ?_; rintro e w1 ⟨rfl, hB⟩; clear H20; replace HN := Lib.hid (HN.out.trans (hB.mono hzN)); clear m0 m1 m2 l0 l1 hzN hWN hBN; obtain ⟨m0, m1, m2, l0, l1, hzN, hWN, hBN⟩ := HCP.out _ HN.out; clear hB)
    | (go_at_call 9; refine (H9.out _).mono ?_; rintro e w1 ⟨rfl, hB⟩; clear H9; replace HN := Lib.hid (HN.out.trans (hB.mono hzN)); clear m0 m1 m2 l0 l1 hzN hWN hBN; obtain ⟨m0, m1, m2, l0, l1, hzN, hWN, hBN⟩ := HCP.out _ HN.out; clear hB)
    | fail)
  exact bodyPost_ret (v := .bool true) (by simp [results, Try.results6, go_sem]) rfl ⟨rfl, hBN⟩
end Go.Proofs.Ytijgfdncocjncaa
